/-
  Rows of slices, as values and as data; what is appended to rows of one's own. Conditions: none.
-/
import Derived.Test.YtlbbkmcegbeckaaLcI
set_option linter.all false
set_option maxRecDepth 100000
noncomputable section
namespace Go.Proofs.Ytlbbkmcegbeckaa
open Go.Sx Go.Proofs Go.RowKit Go.Lib Go.Stb
section
variable {w0:World} {blk off n cap:Nat} {R:Nat→R5} {cv:Nat→Nat→Int} {T:Nat→Nat→Prop}
structure StA (w0:World) (blk off n:Nat) (R:Nat→R5) (T:Nat→Nat→Prop) (A:Nat) (w:World):Prop where
 ex:∃ g k,A=k*20∧RowW w0 blk off n R g w∧InsP T g 20 n k
structure StB (w0:World) (blk off n:Nat) (R:Nat→R5) (T:Nat→Nat→Prop) (S:Nat) (w:World):Prop where
 ex:∃ g,RowW w0 blk off n R g w∧Bks T g S n
structure StC (w0:World) (blk off n:Nat) (R:Nat→R5) (T:Nat→Nat→Prop) (S A:Nat) (w:World):Prop where
 ex:∃ g k,A=k*(2*S)∧RowW w0 blk off n R g w∧MrgP T g S n k
theorem boa(O:Ord (ltC cv) T)(C:CmpOK w0 blk off n R cv)(hn:n≤1000000){A B:Nat}{w:World}(h:StA w0 blk off n R T A w)(hB:B=A+20)(hb:B≤n):Calls Try.prog 136 #[.slice (some ⟨blk,off,none⟩) n cap,.int .i64 A,.int .i64 B,cmpV] w fun e w'=>e=.returned (.tuple #[])∧StA w0 blk off n R T B w':=by
 obtain⟨g,k,hA,hr,hi⟩:=h.ex
 subst hB
 refine(asw O C hr (by omega) hb hn (fun x h1 h2=>hi.rest x (by omega) (by omega))).mono fun e w' hh=>⟨hh.1,?_⟩
 obtain⟨g',h1,h2,h3⟩:=hh.2
 subst hA
 exact⟨g',k+1,by rw [Nat.add_mul,Nat.one_mul],h1,hi.next h2 h3⟩
theorem bn9(O:Ord (ltC cv) T)(C:CmpOK w0 blk off n R cv)(hn:n≤1000000){A:Nat}{w:World}(h:StA w0 blk off n R T A w)(hA1:A≤n)(hA2:n<A+20):Calls Try.prog 136 #[.slice (some ⟨blk,off,none⟩) n cap,.int .i64 A,.int .i64 n,cmpV] w fun e w'=>e=.returned (.tuple #[])∧StB w0 blk off n R T 20 w':=by
 obtain⟨g,k,hA,hr,hi⟩:=h.ex
 subst hA
 refine(asw O C hr hA1 (Rl _) hn (fun x h1 h2=>hi.rest x h1 h2)).mono fun e w' hh=>⟨hh.1,?_⟩
 obtain⟨g',h1,h2,h3⟩:=hh.2
 exact⟨g',h1,hi.last hA1 hA2 h2 h3⟩
theorem bke{S:Nat}{w:World}(h:StB w0 blk off n R T S w):StC w0 blk off n R T S 0 w:=by
 obtain⟨g,h1,h2⟩:=h.ex
 exact⟨g,0,by rw [Nat.zero_mul],h1,.start h2⟩
theorem boc(O:Ord (ltC cv) T)(C:CmpOK w0 blk off n R cv)(hn:n≤1000000){S A M B:Nat}{w:World}(h:StC w0 blk off n R T S A w)(hS:0<S)(hM:M=A+S)(hB:B=A+2*S)(hb:B≤n):Calls Try.prog 137 #[.slice (some ⟨blk,off,none⟩) n cap,.int .i64 A,.int .i64 M,.int .i64 B,cmpV] w fun e w'=>e=.returned (.tuple #[])∧StC w0 blk off n R T S B w':=by
 obtain⟨g,k,hA,hr,hi⟩:=h.ex
 subst hA
 subst hM
 subst hB
 have hl:=hi.left hS (by omega)
 have hrt:=hi.right (b:=k*(2*S)+2*S) (by omega) (by rw [Nat.min_eq_left hb])
 have hm:=Bk.merge O (show k*(2*S)<k*(2*S)+S by omega) (show k*(2*S)+S<k*(2*S)+2*S by omega) (n:=n) (by omega) hl hrt
 refine(ayh (cap:=cap) C hn n g _ _ _ w hr (by omega) (by omega) hb (by omega)).mono fun e w' hh=>⟨hh.1,?_⟩
 exact⟨_,k+1,by rw [Nat.add_mul,Nat.one_mul],hh.2,hi.next hm.1 hm.2⟩
theorem bob(O:Ord (ltC cv) T)(C:CmpOK w0 blk off n R cv)(hn:n≤1000000){S A M:Nat}{w:World}(h:StC w0 blk off n R T S A w)(hS:0<S)(hM:M=A+S)(hb:M<n)(hA:n<A+2*S):Calls Try.prog 137 #[.slice (some ⟨blk,off,none⟩) n cap,.int .i64 A,.int .i64 M,.int .i64 n,cmpV] w fun e w'=>e=.returned (.tuple #[])∧StB w0 blk off n R T (2*S) w':=by
 obtain⟨g,k,hA',hr,hi⟩:=h.ex
 subst hA'
 subst hM
 have hl:=hi.left hS (by omega)
 have hrt:=hi.right (b:=n) hb (by rw [Nat.min_eq_right (by omega)])
 have hm:=Bk.merge O (show k*(2*S)<k*(2*S)+S by omega) (show k*(2*S)+S<n by omega) (n:=n) (by omega) hl hrt
 refine(ayh (cap:=cap) C hn n g _ _ _ w hr (by omega) (by omega) (Rl _) (by omega)).mono fun e w' hh=>⟨hh.1,?_⟩
 exact⟨_,hh.2,hi.last (by omega) hA (fun _=>hm.1) hm.2⟩
theorem bod{S A:Nat}{w:World}(h:StC w0 blk off n R T S A w)(hA1:A≤n)(hA:n<A+2*S)(hb:¬ A+S<n):StB w0 blk off n R T (2*S) w:=by
 obtain⟨g,k,hA',hr,hi⟩:=h.ex
 subst hA'
 refine⟨g,hr,hi.last hA1 hA (fun h'=>?_) (fun _ _=>rfl)⟩
 have:=hi.rest (2*k) (Rl _) (by rw [ai4];exact h')
 rw [ai4,Nat.min_eq_right (by omega)] at this
 exact this
set_option maxHeartbeats 4000000 in
theorem a8a{wr:World}(O:Ord (ltC cv) T)(C:CmpOK w0 blk off n R cv)(h:RowW w0 blk off n R id wr)(hn:n≤1000000) :
  Calls Try.prog 114 #[.slice (some ⟨blk,off,none⟩) n cap,.int .i64 n,cmpV] wr fun e w'=>e=.returned (.tuple #[])∧∃ g,RowW w0 blk off n R g w'∧Bk T g 0 n:=by
 have HO:=hidj O
 have HC:=hidj C
 have HH:Hid (StA w0 blk off n R T 0 wr):=⟨id,0,by omega,h,⟨fun j hj=>absurd hj (Nat.not_lt_zero _),fun x _ _=>rfl⟩⟩
 clear h O C
 go_enter Try.func114,Try.ntmps114
 go_wp2_with fail
 go_loopw [7,8] (fun p q w=>∃ A B:Nat,p=.int .i64 (A:Int)∧q=.int .i64 (B:Int)∧A≤n∧Hid (B=A+20)∧Hid (StA w0 blk off n R T A w)) (fun p _ _=>n - (RowKit.intOf p).toNat)
 case atStart=>exact⟨0,20,rfl,rfl,Nat.zero_le _,rfl,HH⟩
 case round =>
  obtain⟨A,B,rfl,rfl,hA,hB,HS⟩:=hrel
  by_cases hBn:B≤n
  ·as_aux_lemma =>
   have hcall:=boa (cap:=cap) HO.out HC.out hn HS.out hB.out hBn
   have t0:(B:Int)≤(n:Int):=by omega
   have v0:IntKind.i64.wrap ((B:Int)+20)=(B:Int)+20:=by rw [IntKind.wrap_i64];omega
   go_wp2_with (go_at_call 136;refine hcall.mono ?_;rintro e w' ⟨rfl,hw'⟩;skip)
   go_roundw
   case rel=>exact⟨B,B+20,rfl,by go_num,hBn,rfl,hw'⟩
   case measure=>have:=hB.out;simp [RowKit.intOf];omega
  ·have hcall:=bn9 (cap:=cap) HO.out HC.out hn HS.out hA (by have:=hB.out;omega)
   have t0:¬ (B:Int)≤(n:Int):=by omega
   clear HS HH
   go_wp2_with (go_at_call 136;refine hcall.mono ?_;rintro e w' ⟨rfl,hw'⟩;skip)
   go_loopw [6] (fun p w=>∃ S:Nat,p=.int .i64 (S:Int)∧0<S∧S≤2*n+20∧Hid (StB w0 blk off n R T S w)) (fun p _=>2*n+20 - (RowKit.intOf p).toNat)
   case atStart=>exact⟨20,rfl,by omega,by omega,hw'⟩
   case round =>
    obtain⟨S,rfl,hS,hS2,HS⟩:=hrel
    by_cases hSn:S<n
    ·have t1:(S:Int)<(n:Int):=by omega
     have v1:IntKind.i64.wrap (2*(S:Int))=2*(S:Int):=by rw [IntKind.wrap_i64];omega
     go_wp2_with fail
     go_loopw [7,8] (fun p q w=>∃ A B:Nat,p=.int .i64 (A:Int)∧q=.int .i64 (B:Int)∧Hid (B=A+2*S∧A≤n)∧Hid (StC w0 blk off n R T S A w)) (fun p _ _=>n - (RowKit.intOf p).toNat)
     case atStart=>exact⟨0,2*S,rfl,by go_num,⟨by omega,Nat.zero_le _⟩,bke HS.out⟩
     case round =>
      obtain⟨A',B',rfl,rfl,HAB,HSC⟩:=hrel
      have hA1:A'≤n:=HAB.out.2
      obtain⟨M,hM⟩:∃ M,M=A'+S:=⟨_,rfl⟩
      have v2:IntKind.i64.wrap ((A':Int)+(S:Int))=(M:Int):=by rw [IntKind.wrap_i64];omega
      have HM:=hidj hM
      clear hM
      by_cases hBn':B'≤n
      ·as_aux_lemma =>
       have hcall2:=boc (cap:=cap) HO.out HC.out hn HSC.out hS HM.out HAB.out.1 hBn'
       have t2:(B':Int)≤(n:Int):=by omega
       have v3:IntKind.i64.wrap ((B':Int)+2*(S:Int))=(B':Int)+2*(S:Int):=by rw [IntKind.wrap_i64];omega
       go_wp2_with (go_at_call 137;refine hcall2.mono ?_;rintro e w' ⟨rfl,hw'⟩;skip)
       go_roundw
       case rel=>exact⟨B',B'+2*S,rfl,by go_num,⟨rfl,hBn'⟩,hw'⟩
       case measure=>have:=HAB.out.1;simp [RowKit.intOf];omega
      ·have t2:¬ (B':Int)≤(n:Int):=by omega
       have v4:IntKind.i64.wrap ((S:Int)*2)=(S:Int)*2:=by rw [IntKind.wrap_i64];omega
       by_cases hMn:M<n
       ·as_aux_lemma =>
        have hcall2:=bob (cap:=cap) HO.out HC.out hn HSC.out hS HM.out hMn (by have:=HAB.out.1;omega)
        have t3:(M:Int)<(n:Int):=by omega
        go_wp2_with (go_at_call 137;refine hcall2.mono ?_;rintro e w' ⟨rfl,hw'⟩;skip)
        go_roundw
        case rel=>exact⟨2*S,by go_num,by omega,by omega,hw'⟩
        case measure=>simp [RowKit.intOf];omega
       ·as_aux_lemma =>
        have t3:¬ (M:Int)<(n:Int):=by omega
        have HN:=hidj (bod HSC.out hA1 (by have:=HAB.out.1;omega) (by have:=HM.out;omega))
        go_wp2_with fail
        go_roundw
        case rel=>exact⟨2*S,by go_num,by omega,by omega,HN⟩
        case measure=>simp [RowKit.intOf];omega
    ·have t1:¬ (S:Int)<(n:Int):=by omega
     go_wp2_with fail
     go_returns
     refine⟨rfl,?_⟩
     obtain⟨g,h1,h2⟩:=HS.out.ex
     refine⟨g,h1,?_⟩
     by_cases hn0:0<n
     ·have:=h2 0 (by omega)
      rw [Nat.zero_mul,Nat.min_eq_right (by omega)] at this
      exact this
     ·exact Bk.one (by omega) (fun h=>absurd h hn0)
end
set_option maxHeartbeats 1000000 in
theorem be2{w0 wr:World}{blk off n cap:Nat}{R:Nat→R5}{cv:Nat→Nat→Int}{T:Nat→Nat→Prop}(O:Ord (ltC cv) T)(C:CmpOK w0 blk off n R cv)(h:RowW w0 blk off n R id wr)(hn:n≤1000000) :
  Calls Try.prog 67 #[.slice (some ⟨blk,off,none⟩) n cap,cmpV] wr fun e w'=>e=.returned (.tuple #[])∧∃ g,RowW w0 blk off n R g w'∧Bk T g 0 n:=by
 have hcall:=a8a (cap:=cap) O C h hn
 clear O C h
 go_enter Try.func67,Try.ntmps67
 go_wp2_with (go_at_call 114;refine hcall.mono ?_;rintro e w' ⟨rfl,hw'⟩;skip)
 go_returns
 exact⟨rfl,hw'⟩
abbrev R5.z:R5:=⟨0,0,0,none,0,0,none,0,0⟩
def flat(l:List R5):List Value:=l.flatMap R5.cells
theorem alu(l:List R5):(flat l).length=l.length*5:=by
 induction l with
 | nil=>rfl
 | cons r l ih =>
  show(r.cells++flat l).length=_
  rw [List.length_append,ih,List.length_cons]
  show 5+_=_
  omega
theorem flat_get{l:List R5}:∀ {k:Nat},k<l.length→∀ {j:Nat},j<5→(flat l)[k*5+j]? = (l.getD k R5.z).cells[j]?:=by
 induction l with
 | nil=>intro k hk;exact absurd hk (Nat.not_lt_zero _)
 | cons r l ih =>
  intro k hk j hj
  show(r.cells++flat l)[k*5+j]? = _
  cases k with
  | zero =>
   rw [Nat.zero_mul,Nat.zero_add,List.getElem?_append_left (by show j<5;exact hj)]
   rfl
  | succ k =>
   rw [List.getElem?_append_right (by show 5≤_;omega),show(k+1)*5+j - r.cells.length=k*5+j by show(k+1)*5+j - 5=_;omega,ih (by simpa using hk) hj]
   rfl
theorem cells_one(r:R5):∀ v∈r.cells,v.oneCell'=true:=fun v hv=>by
 unfold R5.cells at hv
 simp only [Mn,List.not_mem_nil,or_false] at hv
 rcases hv with rfl | rfl | rfl | rfl | rfl<;>rfl
theorem a5g(r:R5):∀ v∈r.cells,is8 v=false:=fun v hv=>by
 unfold R5.cells at hv
 simp only [Mn,List.not_mem_nil,or_false] at hv
 rcases hv with rfl | rfl | rfl | rfl | rfl<;>rfl
theorem bl5(l:List R5):∀ v∈flat l,v.oneCell'=true:=fun v hv=>by
 obtain⟨r,_,h⟩:=List.mem_flatMap.1 hv
 exact cells_one r v h
theorem bbt(l:List R5):∀ v∈flat l,is8 v=false:=fun v hv=>by
 obtain⟨r,_,h⟩:=List.mem_flatMap.1 hv
 exact a5g r v h
def InR(w:World)(v:Value)(l:List R5):Prop:=∃ a cap,v=.slice a l.length cap∧(l≠[]→∃ b off arr t fr,a=some ⟨b,off,none⟩∧w.heap[b]? = some (.cells arr t fr)∧∀ k,k<l.length→∀ j,j<5→arr[off+k*5+j]? = (l.getD k R5.z).cells[j]?)
theorem InR.below{w w':World}{v:Value}{l:List R5}(h:InR w v l)(hb:Below w.heap.size w w'):InR w' v l:=by
 obtain⟨a,cap,rfl,hr⟩:=h
 refine⟨a,cap,rfl,fun hne=>?_⟩
 obtain⟨b,off,arr,t,fr,rfl,hw,h3⟩:=hr hne
 exact⟨b,off,arr,t,fr,rfl,(hb.block b (Ga.1 hw).1).trans hw,h3⟩
theorem InR.cells{w:World}{a:Option Addr}{n cap:Nat}{l:List R5}(h:InR w (.slice a n cap) l){k:Nat}(hk:k<l.length):∃ b off,a=some ⟨b,off,none⟩∧b<w.heap.size∧w.cell? ⟨b,off+k*5,none⟩=some (.int .i64 (l.getD k R5.z).z0)∧w.cell? ⟨b,off+k*5+1,none⟩=some (.int .i64 (l.getD k R5.z).z1)∧w.cell? ⟨b,off+k*5+2,none⟩=some (.int .i64 (l.getD k R5.z).z2)∧w.cell? ⟨b,off+k*5+3,none⟩=some (.slice (l.getD k R5.z).a3 (l.getD k R5.z).n3 (l.getD k R5.z).c3)∧w.cell? ⟨b,off+k*5+4,none⟩=some (.slice (l.getD k R5.z).a4 (l.getD k R5.z).n4 (l.getD k R5.z).c4):=by
 haveI:Sg:=sg0
 obtain⟨a',cap',e,hr⟩:=h
 cases e
 obtain⟨b,off,arr,t,fr,rfl,hw,h3⟩:=hr (fun e=>by rw [e] at hk;exact absurd hk (Nat.not_lt_zero _))
 exact⟨b,off,rfl,(Ga.1 hw).1,by rw [cell?_of hw];exact h3 k hk 0 (by omega),by rw [cell?_of hw];exact h3 k hk 1 (by omega),by rw [cell?_of hw];exact h3 k hk 2 (by omega),by rw [cell?_of hw];exact h3 k hk 3 (by omega),by rw [cell?_of hw];exact h3 k hk 4 (by omega)⟩
structure OwnA (lo:Nat) (w:World) (blk cap:Nat) (l:List R5):Prop where
 old:lo≤blk
 fits:l.length≤cap
 most:cap≤maxLen
 obj:∃ arr t,w.heap[blk]? = some (.cells arr t (0,0))∧cap*5≤arr.size∧(∀ k,k<l.length→∀ j,j<5→arr[k*5+j]? = (l.getD k R5.z).cells[j]?)∧∀ (j:Nat) (u:Value),arr[j]? = some u→is8 u=false
def OwnR(lo:Nat)(w:World)(v:Value)(l:List R5):Prop:=(l=[]∧v=nilV)∨∃ blk cap,v=.slice (some ⟨blk,0,none⟩) l.length cap∧OwnA lo w blk cap l
theorem a2i{lo:Nat}{w:World}{blk G:Nat}{l:List R5}(h:w.heap[blk]? = some (.cells ((flat l).toArray++Builtin.zeroCells zRun.cells (G - l.length)) 27 (0,0)))(hlo:lo≤blk)(hg:l.length≤G)(hm:G≤maxLen):OwnA lo w blk G l:=by
 have hfl:=alu l
 refine⟨hlo,hg,hm,_,_,h,?_,fun k hk j hj=>?_,fun j u hj=>?_⟩
 ·rw [Array.size_append,ahg,List.size_toArray,hfl]
  omega
 ·have hk5:=Nat.mul_le_mul_right 5 (show k+1≤l.length from hk)
  rw [Array.getElem?_append_left (by rw [List.size_toArray,hfl];omega),List.getElem?_toArray]
  exact flat_get hk hj
 ·rw [Array.getElem?_append] at hj
  split at hj
  ·rw [List.getElem?_toArray] at hj
   exact bbt l u (List.mem_of_getElem? hj)
  ·exact ba3 hj
theorem bqr{w:World}{v:Value}{l:List R5}{size:Nat}(hs:size=5)(h:InR w v l):Src Try.prog size 36 v l.length (flat l) w:=by
 haveI:Sg:=sg0
 obtain⟨a,cap,rfl,h⟩:=h
 by_cases hne:l=[]
 ·subst hne
  cases a with
  | none=>exact Src.ofNil _ t36 cap
  | some a=>exact Src.ofSlice w t36 a 0 cap [] (by rw [hs];rfl) (fun j u hj=>by simp at hj) (fun v hv=>by cases hv)
 ·obtain⟨b,off,arr,t,fr,rfl,hw,hr⟩:=h hne
  refine Src.ofSlice w t36 ⟨b,off,none⟩ l.length cap (flat l) (by rw [hs,alu]) (fun j u hj=>?_) (bl5 l)
  rw [Addr.add_lit,cell?_of hw]
  have hlt:j<l.length*5:=by rw [← alu];exact(Ls.1 hj).1
  have e:j=j / 5*5+j % 5:=by omega
  rw [e,flat_get (by omega) (Nat.mod_lt _ (by omega))] at hj
  rw [← hj]
  have:=hr (j / 5) (by omega) (j % 5) (Nat.mod_lt _ (by omega))
  rw [← this]
  congr 1
  omega
set_option maxHeartbeats 1000000 in
theorem ayz{w:World}{v:Value}{l:List R5}(h:InR w v l)(hz:l=[]→v=nilV)(hl:l.length≤1000):Calls Try.prog 110 #[v] w fun e w'=>∃ y,e=.returned y∧Below w.heap.size w w'∧OwnR w.heap.size w' y l:=by
 obtain⟨i0,hi0,hz0,hzs,hzb⟩:=info_parts avz
 have hsz:=h
 obtain⟨a,cap,rfl,h⟩:=h
 by_cases hne:l=[]
 ·subst hne
  have hz:=hz rfl
  cases hz
  have hnil:∀ W:World,(binOp .eql 36 nilV nilV).run Try.prog W=.ok (.bool true) W:=fun W=>Lib.run_eql_slice_nil W 36 27 none 0 0 0 0 t36
  go_enter Try.func110,Try.ntmps110
  go_wp2_with fail
  go_returns
  exact⟨_,rfl,Below.refl _ w,.inl ⟨rfl,rfl⟩⟩
 ·obtain⟨b,off,arr,t,fr,rfl,hw,hr⟩:=h hne
  have hnil:∀ W:World,(binOp .eql 36 (.slice (some ⟨b,off,none⟩) l.length cap) nilV).run Try.prog W=.ok (.bool false) W:=fun W=>Lib.run_eql_slice_nil W 36 27 (some ⟨b,off,none⟩) l.length cap 0 0 t36
  obtain⟨W1,hW1⟩:∃ W1,W1=w.alloc (.cells #[] 27 (0,0)):=⟨_,rfl⟩
  have hb1:Below w.heap.size w W1:=by rw [hW1];exact(Below.refl _ w).alloc (Rl _) _
  have hs1:W1.heap.size=w.heap.size+1:=by rw [hW1];show(w.heap.push _).size=_;rw [Array.size_push]
  have hIn:InR W1 (.slice (some ⟨b,off,none⟩) l.length cap) l:=hsz.below hb1
  have hsrc:=bqr hzs hIn
  have hpos:0<l.length:=List.length_pos_iff.2 hne
  have hold:(Builtin.firstCells i0.size 0 (.slice (some ⟨w.heap.size,0,none⟩) 0 0)).run Try.prog W1.drew=.ok ([]:List Value).toArray W1.drew:=run_firstCells_some W1.drew i0.size 0 ⟨w.heap.size,0,none⟩ 0 0 [] (by simp) (fun j v hj=>by simp at hj)
  obtain⟨nl,hnl⟩:∃ nl,l.length=nl:=⟨_,rfl⟩
  have hrun:∀ ty,(Builtin.append_ #[36,36] ty #[.slice (some ⟨w.heap.size,0,none⟩) 0 0,.slice (some ⟨b,off,none⟩) nl cap]).run Try.prog W1=.ok (.slice (some ⟨W1.heap.size,0,none⟩) nl (grownCap W1 nl 0 27)) (W1.drew.alloc (.cells ((flat l).toArray++Builtin.zeroCells zRun.cells (grownCap W1 nl 0 27 - nl)) 27)):=fun ty=>by
   have h:=run_append_grow_src W1 36 36 ty 27 i0 _ t36 hi0 hz0 (some ⟨w.heap.size,0,none⟩) 0 0 [] hold _ l.length (flat l) hsrc (by omega) (by omega) (by rw [hzb,Nat.zero_add];exact growslice_fits (by omega) (by omega))
   rw [hnl] at h
   simpa using h
  have hg:=grownCap_ge W1 nl 0 27
  have hgx:=grownCap_le_maxLen W1 nl 0 27 (by unfold maxLen;omega)
  rw [hnl] at hnil ⊢
  clear hsz hsrc hold hIn
  have HX:=hidj (And.intro hb1 (And.intro hs1 hnl))
  clear hb1 hs1 hnl hw hr h hz
  generalize grownCap W1 nl 0 27=G at *
  subst hW1
  go_enter Try.func110,Try.ntmps110
  go_wp2_with (at_builtin;refine Lib.wpList_append_run _ rfl _ _ _ _ rfl _ _ rfl rfl _ _ (hrun _) ?_)
  go_returns
  obtain⟨hb1,hs1,hnl⟩:=HX.out
  refine⟨_,rfl,hb1.drew.alloc (by rw [show(w.alloc _).drew.heap.size=(w.alloc (.cells #[] 27 (0,0))).heap.size from rfl,hs1];omega) _,.inr ⟨w.heap.size+1,G,by rw [hnl];simp [hs1],a2i ?_ (by omega) (by omega) hgx⟩⟩
  rw [hnl]
  show((w.heap.push _).push _)[w.heap.size+1]? = _
  rw [Array.getElem?_push,if_pos (by rw [Array.size_push])]
  rfl
theorem OwnA.inR{lo:Nat}{w:World}{blk cap:Nat}{l:List R5}(h:OwnA lo w blk cap l):InR w (.slice (some ⟨blk,0,none⟩) l.length cap) l:=by
 obtain⟨arr,t,h1,h2,h3,h4⟩:=h.obj
 exact⟨_,cap,rfl,fun _=>⟨blk,0,arr,t,(0,0),rfl,h1,fun k hk j hj=>by rw [Nat.zero_add];exact h3 k hk j hj⟩⟩
theorem OwnR.inR{lo:Nat}{w:World}{v:Value}{l:List R5}(h:OwnR lo w v l):InR w v l:=by
 rcases h with ⟨rfl,rfl⟩ | ⟨blk,cap,rfl,h⟩
 ·exact⟨none,0,rfl,fun h=>absurd rfl h⟩
 ·exact h.inR
theorem OwnA.below{lo:Nat}{w w':World}{blk cap:Nat}{l:List R5}(h:OwnA lo w blk cap l)(hb:Below w.heap.size w w'):OwnA lo w' blk cap l:=by
 obtain⟨arr,t,h1,h2⟩:=h.obj
 exact⟨h.old,h.fits,h.most,arr,t,(hb.block blk (Ga.1 h1).1).trans h1,h2⟩
theorem OwnR.below{lo:Nat}{w w':World}{v:Value}{l:List R5}(h:OwnR lo w v l)(hb:Below w.heap.size w w'):OwnR lo w' v l:=by
 rcases h with h | ⟨blk,cap,e,h⟩
 ·exact .inl h
 ·exact .inr ⟨blk,cap,e,h.below hb⟩
def delR(s x:R5):Bool:=decide (x.z0=s.z0)&&decide (x.z1=s.z1)
def BoxR(w:World)(kx:Nat)(s:R5):Prop:=w.heap[kx]? = some (.cells #[.int .i64 s.z0,.int .i64 s.z1,.int .i64 s.z2,.slice s.a3 s.n3 s.c3,.slice s.a4 s.n4 s.c4] 27 (0,0))
theorem BoxR.below{w w':World}{kx:Nat}{s:R5}(h:BoxR w kx s)(hb:Below w.heap.size w w'):BoxR w' kx s:=(hb.block kx (Ga.1 h).1).trans h
abbrev isV(kx:Nat):Value:=.func (.func 111) #[] #[.pointer (some ⟨kx,0,none⟩)]
set_option maxHeartbeats 1000000 in
theorem bb7{w:World}{kx:Nat}{s x:R5}(h:BoxR w kx s):Calls Try.prog 111 #[x.agg,.pointer (some ⟨kx,0,none⟩)] w fun e w'=>e=.returned (.bool (delR s x))∧Below w.heap.size w w':=by
 obtain⟨z0,z1,z2,z3,z4⟩:=a9j (h.below ((Below.refl _ w).alloc (Rl _) (.cells #[.int .i64 x.z0,.int .i64 x.z1,.int .i64 x.z2,.slice x.a3 x.n3 x.c3,.slice x.a4 x.n4 x.c4] 27 (0,0))))
 clear h
 go_enter Try.func111,Try.ntmps111
 go_wp2_with fail
 all_goals
  go_returns
  refine⟨?_,(Below.refl _ w).alloc (Rl _) _⟩
  unfold delR
  simp [*]
def IdxR(l:List R5)(s:R5)(i:Int):Prop:=(i = -1∧∀ k,k<l.length→delR s (l.getD k R5.z)=false)∨∃ k:Nat,i=k∧k<l.length∧delR s (l.getD k R5.z)=true∧∀ j,j<k→delR s (l.getD j R5.z)=false
structure IdxI (w wr:World) (l:List R5) (s:R5) (k:Nat):Prop where
 below:Below w.heap.size w wr
 no:∀ j,j<k→delR s (l.getD j R5.z)=false
set_option maxHeartbeats 1000000 in
theorem am4{w:World}{v:Value}{l:List R5}{kx:Nat}{s:R5}(h:InR w v l)(hx:BoxR w kx s)(hl:l.length≤100000):Calls Try.prog 135 #[v,isV kx] w fun e w'=>∃ i,e=.returned (.int .i64 i)∧IdxR l s i∧Below w.heap.size w w':=by
 have hv:=h
 obtain⟨a,cap,rfl,_⟩:=hv
 have HH:=hidj h
 have HX:=hidj hx
 obtain⟨n,hn⟩:∃ n,l.length=n:=⟨_,rfl⟩
 rw [hn] at HH hl ⊢
 have HN:=hidj hn
 clear h hx hn
 go_enter Try.func135,Try.ntmps135
 go_wp2_with fail
 go_loopw [8] (fun q wr=>∃ k:Nat,k≤n∧q=.int .i64 (k:Int)∧Hid (IdxI w wr l s k)) (fun q _=>n - (RowKit.intOf q).toNat)
 case atStart=>exact⟨0,Nat.zero_le _,rfl,⟨Below.refl _ w,fun j hj=>absurd hj (Nat.not_lt_zero _)⟩⟩
 case round =>
  obtain⟨k,hk,rfl,HI⟩:=hrel
  by_cases hkn:k<n
  ·obtain⟨b,off,rfl,_,x0,x1,x2,x3,x4⟩:=(HH.out.below HI.out.below).cells (k:=k) (by rw [HN.out];exact hkn)
   obtain⟨x,hx⟩:∃ x,l.getD k R5.z=x:=⟨_,rfl⟩
   rw [hx] at x0 x1 x2 x3 x4
   have HXX:=hidj hx
   clear hx
   have t0:(k:Int)<(n:Int):=by omega
   have t1:(0:Int)≤(k:Int):=Int.natCast_nonneg _
   have v0:IntKind.i64.wrap ((k:Int)+1)=(k:Int)+1:=by rw [IntKind.wrap_i64];omega
   have hcall:=bb7 (x:=x) (HX.out.below HI.out.below)
   have hB:∀ w',Below wr.heap.size wr w'→Hid (Below w.heap.size w w'):=fun w' hw'=>hidj (HI.out.below.trans (hw'.mono HI.out.below.size))
   by_cases hd:delR s x=true
   ·rw [hd] at hcall
    go_wp2_with (go_at_call 111;refine hcall.mono ?_;rintro e w' ⟨rfl,hw'⟩;skip)
    go_returns
    exact⟨_,rfl,.inr ⟨k,rfl,by rw [HN.out];exact hkn,by rw [HXX.out];exact hd,HI.out.no⟩,(hB _ hw').out⟩
   ·have hd:delR s x=false:=Bool.eq_false_iff.2 hd
    rw [hd] at hcall
    have HK:∀ w',Below wr.heap.size wr w'→Hid (IdxI w w' l s (k+1)):=fun w' hw'=>⟨(hB w' hw').out,fun j hj=>by
     by_cases hjk:j=k
     ·rw [hjk,HXX.out];exact hd
     ·exact HI.out.no j (by omega)⟩
    go_wp2_with (go_at_call 111;refine hcall.mono ?_;rintro e w' ⟨rfl,hw'⟩;skip)
    exact⟨⟨k+1,by omega,by go_num,HK _ hw'⟩,by simp [RowKit.intOf];omega⟩
  ·have hke:k=n:=by omega
   subst hke
   go_wp2_with fail
   go_returns
   exact⟨_,rfl,.inl ⟨rfl,fun j hj=>HI.out.no j (by rw [← HN.out];exact hj)⟩,HI.out.below⟩
theorem bq1{l:List R5}{s:R5}{i:Int}(h:IdxR l s i):l.any (delR s)=decide (0≤i):=by
 rcases h with ⟨rfl,h⟩ | ⟨k,rfl,h1,h2,h3⟩
 ·rw [decide_eq_false (by omega),List.any_eq_false]
  intro x hx
  obtain⟨k,hk,e⟩:=List.mem_iff_getElem.1 hx
  have:=h k hk
  rw [Gd,Gl hk] at this
  rw [← e]
  simpa using this
 ·rw [decide_eq_true (by omega),List.any_eq_true]
  refine⟨l.getD k R5.z,?_,h2⟩
  rw [Gd,Gl h1]
  exact List.getElem_mem h1
set_option maxHeartbeats 1000000 in
theorem ay0{w:World}{v:Value}{l:List R5}{kx:Nat}{s:R5}(h:InR w v l)(hx:BoxR w kx s)(hl:l.length≤100000):Calls Try.prog 112 #[v,isV kx] w fun e w'=>e=.returned (.bool (l.any (delR s)))∧Below w.heap.size w w':=by
 have hv:=h
 obtain⟨a,cap,rfl,_⟩:=hv
 have hcall:=am4 h hx hl
 clear h hx
 go_enter Try.func112,Try.ntmps112
 go_wp2_with (go_at_call 135;refine hcall.mono ?_;rintro e w' ⟨i,rfl,hi,hw'⟩;skip)
 go_returns
 exact⟨by rw [bq1 hi];rfl,hw'⟩
theorem blf{n:Nat}:∀ u∈(Builtin.zeroCells zRun.cells n).toList,u.oneCell'=true:=fun u hu=>by
 obtain⟨j,hj⟩:=List.mem_iff_getElem?.1 hu
 rw [Array.getElem?_toList] at hj
 unfold Builtin.zeroCells at hj
 rw [Array.getElem?_map] at hj
 obtain⟨i,hi,rfl⟩:=Option.map_eq_some_iff.1 hj
 show((#[Value.int .i64 0,.int .i64 0,.int .i64 0,.slice none 0 0,.slice none 0 0])[i % 5]!).oneCell'=true
 have:i % 5<5:=Nat.mod_lt _ (by omega)
 generalize i % 5=q at this
 match q,this with
 | 0,_=>rfl
 | 1,_=>rfl
 | 2,_=>rfl
 | 3,_=>rfl
 | 4,_=>rfl
theorem bap(w:World)(b o n c:Nat)(hn:0<n)(ty:TypeId){arr:Array Value}{t:TypeId}{fr:Nat×Nat}(h:w.heap[b]? = some (.cells arr t fr))(hfr:UF fr arr.size)(hlen:o+n*5≤arr.size) :
  (Builtin.clear_ #[36] ty #[.slice (some ⟨b,o,none⟩) n c]).run Try.prog w=.ok (.tuple #[]) (w.setCells b o (Builtin.zeroCells zRun.cells n).toList):=by
 haveI:Sg:=sg0
 obtain⟨i0,hi0,hz0,hzs,hzb⟩:=info_parts avz
 have hlz:(Builtin.zeroCells zRun.cells n).toList.length=n*5:=by rw [Array.length_toList,ahg]
 have hst:=run_storeCells_cells (P:=Try.prog) b o (Builtin.zeroCells zRun.cells n).toList 0 w (fun j hj=>by
  rw [hlz] at hj
  rw [cell?_of h,Array.getElem?_eq_getElem (by omega)]
  rfl) (fun j hj=>by
  rw [hlz] at hj
  exact ayj h hfr (by omega)) blf
 simp only [Nat.add_zero] at hst
 obtain⟨m,rfl⟩:∃ m,n=m+1:=⟨n - 1,by omega⟩
 have hv:∀ w,(zeroValue 27).run Try.prog w=.ok zRun w:=fun w=>by simp [zeroValue,typeInfo,hi0,hz0]
 simp [Builtin.clear_,run_underlying t36,hv,hst]
theorem RowW.start{lo:Nat}{w:World}{blk cap:Nat}{l:List R5}(h:OwnA lo w blk cap l):RowW w blk 0 l.length (fun k=>l.getD k R5.z) id w:=by
 obtain⟨arr,t,h1,h2,h3,h4⟩:=h.obj
 have:=h.fits
 exact⟨rfl,rfl,rfl,Rl _,fun _ _ _=>rfl,(Ga.1 h1).1,⟨arr,arr,t,(0,0),h1,h1,.inl rfl,by omega,rfl,fun _ _=>rfl,fun k hk j hj=>by rw [Nat.zero_add];exact h3 k hk j hj⟩,fun k hk=>hk⟩
theorem auh{α:Type}(f:Nat→α)(d:α){m k:Nat}(h:k<m):(lst f 0 m).getD k d=f k:=by
 unfold lst
 rw [Gd,List.getElem?_map,List.getElem?_range' (by omega)]
 show f (0+1*k)=f k
 rw [Nat.zero_add,Nat.one_mul]
theorem RowW.own{lo:Nat}{w wr:World}{blk cap m:Nat}{l:List R5}{g:Nat→Nat}(h:OwnA lo w blk cap l)(hr:RowW w blk 0 l.length (fun k=>l.getD k R5.z) g wr)(hm:m≤l.length):OwnA lo wr blk cap (lst (fun k=>l.getD (g k) R5.z) 0 m):=by
 obtain⟨arr0,t0,h1,h2,h3,h4⟩:=h.obj
 obtain⟨arr,arr0',t,fr,g1,g2,g3,g4,g5,g6,g7⟩:=hr.obj
 rw [h1] at g2
 cases g2
 have hf:=h.fits
 have hlen:(lst (fun k=>l.getD (g k) R5.z) 0 m).length=m:=by
  unfold lst
  rw [List.length_map,List.length_range']
  rfl
 refine⟨h.old,by rw [hlen];omega,h.most,arr,_,g1,by omega,fun k hk j hj=>?_,fun j u hj=>?_⟩
 ·rw [hlen] at hk
  have:=g7 k (by omega) j hj
  rw [Nat.zero_add] at this
  rw [this]
  rw [auh _ _ hk]
 ·by_cases hjn:j<l.length*5
  ·have:=g7 (j / 5) (by omega) (j % 5) (Nat.mod_lt _ (by omega))
   rw [Nat.zero_add,show j / 5*5+j % 5=j by omega,hj] at this
   exact a5g _ u (List.mem_of_getElem? this.symm)
  ·rw [g6 j (by omega)] at hj
   exact h4 j u hj
theorem OwnA.setTail{lo:Nat}{w:World}{blk cap o:Nat}{l:List R5}{vs:List Value}(h:OwnA lo w blk cap l)(ho:l.length*5≤o)(h8:∀ u∈vs,is8 u=false):OwnA lo (w.setCells blk o vs) blk cap l:=by
 obtain⟨arr,t,h1,h2,h3,h4⟩:=h.obj
 obtain⟨arr',g1,g2,g3,g4⟩:=ab5 vs o w arr h1
 refine⟨h.old,h.fits,h.most,arr',t,g1,by rw [g2];exact h2,fun k hk j hj=>?_,fun j u hj=>?_⟩
 ·have:=Nat.mul_le_mul_right 5 (show k+1≤l.length from hk)
  rw [g4 _ (.inl (by omega))]
  exact h3 k hk j hj
 ·by_cases hin:o≤j∧j<o+vs.length
  ·have hlt:j<arr'.size:=(Ga.1 hj).1
   have:=g3 (j - o) _ (Gl (show j - o<vs.length by omega)) (by omega)
   rw [show o+(j - o)=j by omega,hj] at this
   cases this
   exact h8 _ (List.getElem_mem _)
  ·rw [g4 j (by omega)] at hj
   exact h4 j u hj
theorem bcg{α:Type}(f:Nat→α)(n:Nat):lst f 0 (n+1)=lst f 0 n++[f n]:=by
 rw [abd f (Nat.zero_le n) (Nat.le_succ n),agy]
abbrev keepR(s x:R5):Bool:=!delR s x
structure DelI (w wr:World) (blk:Nat) (l:List R5) (s:R5) (i j:Nat):Prop where
 row:∃ g,RowW w blk 0 l.length (fun k=>l.getD k R5.z) g wr∧lst (fun k=>l.getD (g k) R5.z) 0 i=(l.take j).filter (keepR s)∧∀ k,j≤k→k<l.length→g k=k
theorem take_at{l:List R5}{j:Nat}(h:j<l.length):l.take (j+1)=l.take j++[l.getD j R5.z]:=by
 rw [List.take_succ_eq_append_getElem h,Gd,Gl h]
 rfl
theorem DelI.drop{w wr w':World}{blk:Nat}{l:List R5}{s:R5}{i j:Nat}(h:DelI w wr blk l s i j)(hj:j<l.length)(hd:delR s (l.getD j R5.z)=true)(hb:Below wr.heap.size wr w'):DelI w w' blk l s i (j+1):=by
 obtain⟨g,h1,h2,h3⟩:=h.row
 refine⟨g,h1.below hb,?_,fun k hk hn=>h3 k (by omega) hn⟩
 rw [take_at hj,List.filter_append,h2]
 show _=_++List.filter (keepR s) [l.getD j R5.z]
 rw [List.filter_cons_of_neg (by show ¬ (!delR s (l.getD j R5.z))=true;rw [hd];exact Bool.false_ne_true),List.filter_nil,List.append_nil]
theorem DelI.keep{w wr w':World}{blk:Nat}{l:List R5}{s:R5}{i j:Nat}(h:DelI w wr blk l s i j)(hj:j<l.length)(hij:i<j)(hd:delR s (l.getD j R5.z)=false)(hb:Below wr.heap.size wr w'):DelI w (w'.setCells blk (0+i*5) (l.getD j R5.z).cells) blk l s (i+1) (j+1):=by
 obtain⟨g,h1,h2,h3⟩:=h.row
 refine⟨_,(h1.below hb).put (i:=i) (x:=j) (by omega) hj,?_,fun k hk hn=>?_⟩
 ·rw [take_at hj,List.filter_append,← h2]
  show _=_++List.filter (keepR s) [l.getD j R5.z]
  rw [List.filter_cons_of_pos (by show(!delR s (l.getD j R5.z))=true;rw [hd];rfl),List.filter_nil,bcg]
  congr 1
  ·exact ae4 fun k _ hk=>by rw [if_neg (by omega)]
  ·rw [if_pos rfl]
 ·show(if k=i then j else g k)=k
  rw [if_neg (by omega)]
  exact h3 k (by omega) hn
theorem DelI.below{w wr w':World}{blk:Nat}{l:List R5}{s:R5}{i j:Nat}(h:DelI w wr blk l s i j)(hb:Below wr.heap.size wr w'):DelI w w' blk l s i j:=by
 obtain⟨g,h1,h2,h3⟩:=h.row
 exact⟨g,h1.below hb,h2,h3⟩
theorem DelI.start{w:World}{lo blk cap:Nat}{l:List R5}{s:R5}{k:Nat}(h:OwnA lo w blk cap l)(hk:k<l.length)(hd:delR s (l.getD k R5.z)=true)(hn:∀ j,j<k→delR s (l.getD j R5.z)=false):DelI w w blk l s k (k+1):=by
 refine⟨id,RowW.start h,?_,fun _ _ _=>rfl⟩
 have hind:∀ m,m≤k→lst (fun k=>l.getD (id k) R5.z) 0 m=(l.take m).filter (keepR s):=fun m=>by
  induction m with
  | zero=>intro _;rw [av7 _ (Rl _),List.take_zero];rfl
  | succ m ih =>
   intro hm
   rw [bcg,ih (by omega),take_at (show m<l.length by omega),List.filter_append]
   show _=_++List.filter (keepR s) [l.getD m R5.z]
   rw [List.filter_cons_of_pos (by show(!delR s (l.getD m R5.z))=true;rw [hn m (by omega)];rfl),List.filter_nil]
   rfl
 rw [hind k (Rl _),take_at hk,List.filter_append]
 show _=_++List.filter (keepR s) [l.getD k R5.z]
 rw [List.filter_cons_of_neg (by show ¬ (!delR s (l.getD k R5.z))=true;rw [hd];exact Bool.false_ne_true),List.filter_nil,List.append_nil]
theorem DelI.box{w wr:World}{blk:Nat}{l:List R5}{s t:R5}{i j kx:Nat}(h:DelI w wr blk l s i j)(hb:BoxR w kx t)(hne:kx≠blk):BoxR wr kx t:=by
 obtain⟨g,h1,_⟩:=h.row
 exact(h1.other kx (Ga.1 hb).1 hne).trans hb
theorem DelI.cells{w wr:World}{blk:Nat}{l:List R5}{s:R5}{i j:Nat}(h:DelI w wr blk l s i j)(hj:j<l.length):wr.cell? ⟨blk,j*5,none⟩=some (.int .i64 (l.getD j R5.z).z0)∧wr.cell? ⟨blk,j*5+1,none⟩=some (.int .i64 (l.getD j R5.z).z1)∧wr.cell? ⟨blk,j*5+2,none⟩=some (.int .i64 (l.getD j R5.z).z2)∧wr.cell? ⟨blk,j*5+3,none⟩=some (.slice (l.getD j R5.z).a3 (l.getD j R5.z).n3 (l.getD j R5.z).c3)∧wr.cell? ⟨blk,j*5+4,none⟩=some (.slice (l.getD j R5.z).a4 (l.getD j R5.z).n4 (l.getD j R5.z).c4):=by
 obtain⟨g,h1,_,h3⟩:=h.row
 have:=h1.cells hj
 rw [h3 j (Rl _) hj,Nat.zero_add] at this
 exact this
theorem DelI.thaw{w wr:World}{blk:Nat}{l:List R5}{s:R5}{i j k q:Nat}(h:DelI w wr blk l s i j)(hk:k<l.length)(hq:q<5):wr.frozen? ⟨blk,k*5+q,none⟩=false:=by
 obtain⟨g,h1,_⟩:=h.row
 have:=h1.thaw hk hq
 rw [Nat.zero_add] at this
 exact this
theorem DelI.has{w wr:World}{blk:Nat}{l:List R5}{s:R5}{i j k q:Nat}(h:DelI w wr blk l s i j)(hk:k<l.length)(hq:q<5):(wr.cell? ⟨blk,k*5+q,none⟩).isSome=true:=by
 haveI:Sg:=sg0
 obtain⟨g,h1,_⟩:=h.row
 obtain⟨arr,arr0,t,fr,g1,g2,g3,g4,g5,g6,g7⟩:=h1.obj
 have:=Nat.mul_le_mul_right 5 (show k+1≤l.length from hk)
 rw [cell?_of g1,Array.getElem?_eq_getElem (by omega)]
 rfl
theorem DelI.some{w wr:World}{blk:Nat}{l:List R5}{s:R5}{i j k:Nat}(h:DelI w wr blk l s i j)(hk:k<l.length):∃ p:R5,wr.cell? ⟨blk,k*5,none⟩=some (.int .i64 p.z0)∧wr.cell? ⟨blk,k*5+1,none⟩=some (.int .i64 p.z1)∧wr.cell? ⟨blk,k*5+2,none⟩=some (.int .i64 p.z2)∧wr.cell? ⟨blk,k*5+3,none⟩=some (.slice p.a3 p.n3 p.c3)∧wr.cell? ⟨blk,k*5+4,none⟩=some (.slice p.a4 p.n4 p.c4):=by
 obtain⟨g,h1,_,_⟩:=h.row
 have:=h1.cells hk
 rw [Nat.zero_add] at this
 exact⟨_,this⟩
theorem bz5{n:Nat}:∀ u∈(Builtin.zeroCells zRun.cells n).toList,is8 u=false:=fun u hu=>by
 obtain⟨j,hj⟩:=List.mem_iff_getElem?.1 hu
 rw [Array.getElem?_toList] at hj
 exact ba3 hj
structure Dels (lo:Nat) (w w':World) (y:Value) (l:List R5):Prop where
 below:Below lo w w'
 own:OwnR lo w' y l
theorem bri{lo:Nat}{w w1 wr:World}{blk cap i:Nat}{l:List R5}{s:R5}(h:OwnA lo w blk cap l)(hlo:lo≤w.heap.size)(hb:Below w.heap.size w w1)(hd:DelI w1 wr blk l s i l.length)(hi:i≤l.length):Dels lo w (wr.setCells blk (i*5) (Builtin.zeroCells zRun.cells (l.length - i)).toList) (.slice (some ⟨blk,0,none⟩) i cap) (l.filter (keepR s)):=by
 obtain⟨g,h1,h2,_⟩:=hd.row
 rw [List.take_length] at h2
 have hw1:=h.below hb
 have ho:=RowW.own hw1 h1 hi
 rw [h2] at ho
 have hlen:(l.filter (keepR s)).length=i:=by
  rw [← h2]
  unfold lst
  rw [List.length_map,List.length_range']
  rfl
 have hbr:Below lo w wr:=(hb.mono hlo).trans ⟨h1.os,h1.tape,h1.output,h1.size,fun k hk=>h1.other k (by have:=hb.size;omega) (by have:=h.old;omega)⟩
 refine⟨below_setCells blk h.old _ _ _ hbr,.inr ⟨blk,cap,by rw [hlen],ho.setTail (by rw [hlen];exact Rl _) bz5⟩⟩
set_option maxHeartbeats 2000000 in
theorem a5p{lo:Nat}{w:World}{v:Value}{l:List R5}{kx:Nat}{s:R5}(h:OwnR lo w v l)(hlo:lo≤w.heap.size)(hx:BoxR w kx s)(hkx:∀ b o n c,v=.slice (some ⟨b,o,none⟩) n c→kx≠b)(hl:l.length≤100000) :
  Calls Try.prog 113 #[v,isV kx] w fun e w'=>∃ y,e=.returned y∧Dels lo w w' y (l.filter (keepR s)):=by
 rcases h with ⟨rfl,rfl⟩ | ⟨blk,cap,rfl,h⟩
 ·have hcall:=am4 (v:=nilV) (l:=[]) (show InR w nilV [] from⟨none,0,rfl,fun h=>absurd rfl h⟩) hx (by simp)
  have HLO:=hidj hlo
  clear hx hkx hlo
  go_enter Try.func113,Try.ntmps113
  go_wp2_with (go_at_call 135;refine hcall.mono ?_;rintro e w' ⟨i,rfl,hi,hw'⟩;rcases hi with ⟨rfl,_⟩ | ⟨k,_,hk,_⟩;rotate_left;exact absurd hk (Nat.not_lt_zero _);skip)
  go_returns
  exact⟨_,rfl,hw'.mono HLO.out,.inl ⟨rfl,rfl⟩⟩
 ·have hcall:=am4 h.inR hx hl
  have hne:=hkx _ _ _ _ rfl
  have HA:=hidj h
  have HX:=hidj hx
  have HLO:=hidj hlo
  obtain⟨n,hn⟩:∃ n,l.length=n:=⟨_,rfl⟩
  have hcn:n≤cap:=by rw [← hn];exact h.fits
  have hcm:cap≤9223372036854775807:=Nat.le_trans h.most (by unfold maxLen;omega)
  rw [hn] at hcall hl ⊢
  have HN:=hidj hn
  have HNE:=hidj hne
  clear h hx hkx hn hne hlo
  have hc2:Calls Try.prog 135 #[.slice (some ⟨blk,0,none⟩) n cap,isV kx] w fun e w'=>Hid (Below w.heap.size w w')∧((e=.returned (.int .i64 (-1))∧Hid (∀ k,k<l.length→delR s (l.getD k R5.z)=false))∨∃ k:Nat,k<n∧IntKind.i64.wrap ((k:Int)+1)=(k:Int)+1∧((k:Int) == -1)=false∧e=.returned (.int .i64 k)∧Hid (delR s (l.getD k R5.z)=true∧∀ j,j<k→delR s (l.getD j R5.z)=false)):=hcall.mono fun e w' hh=>by
   obtain⟨i,rfl,hi,hw⟩:=hh
   refine⟨hw,?_⟩
   rcases hi with ⟨rfl,hno⟩ | ⟨k,rfl,hk,hd,hno⟩
   ·exact .inl ⟨rfl,hno⟩
   ·have hkn:k<n:=by rw [← HN.out];exact hk
    exact .inr ⟨k,hkn,by rw [IntKind.wrap_i64];omega,by rw [beq_eq_false_iff_ne];omega,rfl,hd,hno⟩
  clear hcall
  go_enter Try.func113,Try.ntmps113
  go_wp2_with (go_at_call 135;refine hc2.mono ?_;rintro e w1 ⟨hw1,⟨rfl,hno⟩ | ⟨k,hkn,hkw,hkm,rfl,hdn⟩⟩)
  ·go_returns
   refine⟨_,rfl,hw1.out.mono HLO.out,?_⟩
   rw [List.filter_eq_self.2 (fun x hx=>by
    obtain⟨k,hk,e⟩:=List.mem_iff_getElem.1 hx
    have:=hno.out k hk
    rw [Gd,Gl hk] at this
    show(!delR s x)=true
    rw [← e]
    show(!delR s l[k])=true
    rw [show delR s l[k]=false from this]
    rfl)]
   exact .inr ⟨blk,cap,by rw [HN.out];rfl,HA.out.below hw1.out⟩
  ·have HD:=hidj (DelI.start (HA.out.below hw1.out) (by rw [HN.out];exact hkn) hdn.out.1 hdn.out.2)
   have HX1:=hidj (HX.out.below hw1.out)
   clear hdn hc2 hkm
   go_loopw [5,6] (fun p q wr=>∃ i j:Nat,p=.int .i64 (i:Int)∧q=.int .i64 (j:Int)∧i<j∧j≤n∧Hid (DelI w1 wr blk l s i j)) (fun _ q _=>n - (RowKit.intOf q).toNat)
   case atStart=>exact⟨k,k+1,rfl,by go_num,by omega,by omega,HD⟩
   case round =>
    obtain⟨i,j,rfl,rfl,hij,hjn,HI⟩:=hrel
    by_cases hj:j<n
    ·obtain⟨x0,x1,x2,x3,x4⟩:=HI.out.cells (show j<l.length by rw [HN.out];exact hj)
     obtain⟨x,hx⟩:∃ x,l.getD j R5.z=x:=⟨_,rfl⟩
     rw [hx] at x0 x1 x2 x3 x4
     have HXX:=hidj hx
     clear hx
     have t0:(j:Int)<(n:Int):=by omega
     have t1:(0:Int)≤(j:Int):=Int.natCast_nonneg _
     have t2:(i:Int)<(n:Int):=by omega
     have t3:(0:Int)≤(i:Int):=Int.natCast_nonneg _
     have v0:IntKind.i64.wrap ((j:Int)+1)=(j:Int)+1:=by rw [IntKind.wrap_i64];omega
     have v1:IntKind.i64.wrap ((i:Int)+1)=(i:Int)+1:=by rw [IntKind.wrap_i64];omega
     obtain⟨W,hW⟩:∃ W,W=wr.alloc (.cells #[.int .i64 x.z0,.int .i64 x.z1,.int .i64 x.z2,.slice x.a3 x.n3 x.c3,.slice x.a4 x.n4 x.c4] 27 (0,0)):=⟨_,rfl⟩
     have hBW:Below wr.heap.size wr W:=by rw [hW];exact(Below.refl _ wr).alloc (Rl _) _
     have hbox:BoxR W wr.heap.size x:=by rw [hW];exact aa4 wr _
     have hcall:=bb7 (x:=x) ((HI.out.box HX1.out HNE.out).below hBW)
     obtain⟨B,hB⟩:∃ B,B=wr.heap.size:=⟨_,rfl⟩
     have HBW:=hidj hBW
     have HBX:=hidj hbox
     have HW:=hidj hW
     clear hW hBW hbox
     have hK:∀ w',Below W.heap.size W w'→Hid (Below wr.heap.size wr w'):=fun w' hw'=>hidj (HBW.out.trans (hw'.mono HBW.out.size))
     go_wp2_with fail
     rw [← HW.out]
     by_cases hd:delR s x=true
     ·rw [hd] at hcall
      refine hcall.mono ?_
      rintro e w' ⟨rfl,hw'⟩
      have HD':=hidj (HI.out.drop (show j<l.length by rw [HN.out];exact hj) (by rw [HXX.out];exact hd) (hK w' hw').out)
      clear hw' hcall hK
      go_wp2_with fail
      exact⟨⟨i,j+1,rfl,by go_num,by omega,by omega,HD'⟩,by simp [RowKit.intOf];omega⟩
     ·have hd:delR s x=false:=Bool.eq_false_iff.2 hd
      rw [hd] at hcall
      refine hcall.mono ?_
      rintro e w' ⟨rfl,hw'⟩
      have HK:=hK w' hw'
      have HB':BoxR w' wr.heap.size x:=HBX.out.below hw'
      obtain⟨y0,y1,y2,y3,y4⟩:=a9j HB'
      have HJ:=HI.out.below HK.out
      have f0:=HJ.thaw (k:=i) (q:=0) (by rw [HN.out];omega) (by omega)
      have f1:=HJ.thaw (k:=i) (q:=1) (by rw [HN.out];omega) (by omega)
      have f2:=HJ.thaw (k:=i) (q:=2) (by rw [HN.out];omega) (by omega)
      have f3:=HJ.thaw (k:=i) (q:=3) (by rw [HN.out];omega) (by omega)
      have f4:=HJ.thaw (k:=i) (q:=4) (by rw [HN.out];omega) (by omega)
      obtain⟨p,p0,p1,p2,p3,p4⟩:=HJ.some (k:=i) (by rw [HN.out];omega)
      rw [Nat.add_zero] at f0
      have HD':=HI.out.keep (show j<l.length by rw [HN.out];exact hj) hij (by rw [HXX.out];exact hd) HK.out
      rw [Nat.zero_add,HXX.out,show x.cells=[.int .i64 x.z0,.int .i64 x.z1,.int .i64 x.z2,.slice x.a3 x.n3 x.c3,.slice x.a4 x.n4 x.c4] from rfl,set5] at HD'
      have HD':=hidj HD'
      clear hw' hcall hK HK HB' HJ
      go_wp2_with fail
      exact⟨⟨i+1,j+1,by go_num,by go_num,by omega,by omega,HD'⟩,by simp [RowKit.intOf];omega⟩
    ·have hjn':j=n:=by omega
     have HNJ:=hidj hjn'
     have hjj:l.length=j:=by rw [HN.out,hjn']
     clear hj
     subst hjn'
     have t1:(0:Int)≤(i:Int):=Int.natCast_nonneg _
     have t2:(i:Int)≤(j:Int):=by omega
     have HE:=hidj (bri HA.out HLO.out hw1.out (i:=i) (wr:=wr) (s:=s) (by rw [HN.out];exact HI.out) (by rw [HN.out];omega))
     have hcl:(Builtin.clear_ #[36] 0 #[.slice (some ⟨blk,i*5,none⟩) (j - i) (cap - i)]).run Try.prog wr=.ok (.tuple #[]) (wr.setCells blk (i*5) (Builtin.zeroCells zRun.cells (j - i)).toList):=by
      obtain⟨g,h1,_,_⟩:=HI.out.row
      obtain⟨arr,arr0,t,fr,g1,g2,g3,g4,g5,g6,g7⟩:=h1.obj
      rw [HN.out] at g4
      exact bap wr blk (i*5) (j - i) (cap - i) (by omega) 0 g1 g3 (by omega)
     go_wp2_with fail
     go_returns
     have hh:=HE.out
     rw [HN.out] at hh
     exact⟨_,rfl,hh⟩
def RelL(m:Mem)(rows:List (List CD))(l:List R5):Prop:=rows.length=l.length∧∀ k,k<l.length→RSs m sRun (rows.getD k []) fun j=>(l.getD k R5.z).cells[j]?
theorem RelL.mono{m m':Mem}(h:∀ k o,m k o→m' k o){rows:List (List CD)}{l:List R5}(hr:RelL m rows l):RelL m' rows l:=⟨hr.1,fun k hk=>(hr.2 k hk).mono h⟩
theorem bze{m:Mem}{r:List CD}{f:Nat→Option Value}(h:RSs m sRun r f):∃ x:R5,∀ j,j<5→f j=x.cells[j]?:=by
 obtain⟨c0,q0,u0,_,f0,⟨n0,_,rfl,_⟩,c1,q1,u1,_,f1,⟨n1,_,rfl,_⟩,c2,q2,u2,_,f2,⟨n2,_,rfl,_⟩,c3,q3,u3,_,f3,r3,c4,q4,u4,_,f4,r4,_⟩:=h
 obtain⟨a3,n3,k3,rfl⟩:=abe r3
 obtain⟨a4,n4,k4,rfl⟩:=abe r4
 refine⟨⟨n0,n1,n2,a3,n3,k3,a4,n4,k4⟩,fun j hj=>?_⟩
 match j,hj with
 | 0,_=>exact f0
 | 1,_=>exact f1
 | 2,_=>exact f2
 | 3,_=>exact f3
 | 4,_=>exact f4
theorem a6f{m:Mem}{w:World}{d:CD}{u:Value}(hm:∀ k o,m k o→w.heap[k]? = some o)(h:RS m sR d u):∃ l,InR w u l∧RelL m d.rows l:=by
 rcases(show(d=.sl true []∧u=.slice none 0 0)∨_ from h) with ⟨e1,rfl⟩ | ⟨rows,b,off,cap,e1,rfl,h3,h4,h5⟩ | ⟨a,e1,rfl⟩
 ·subst e1
  exact⟨[],⟨none,0,rfl,fun h=>absurd rfl h⟩,rfl,fun k hk=>absurd hk (Nat.not_lt_zero _)⟩
 rotate_left
 ·subst e1
  exact⟨[],⟨some a,0,rfl,fun h=>absurd rfl h⟩,rfl,fun k hk=>absurd hk (Nat.not_lt_zero _)⟩
 subst e1
 by_cases hne:rows=[]
 ·subst hne
  exact⟨[],⟨_,cap,rfl,fun h=>absurd rfl h⟩,rfl,fun k hk=>absurd hk (Nat.not_lt_zero _)⟩
 obtain⟨arr,t,fr,⟨h6,h7⟩,h8⟩:=h5 hne
 have hk:∀ k,k<rows.length→∃ x:R5,∀ j,j<5→arr[off+k*5+j]? = x.cells[j]?:=fun k hk=>bze (h8 k rows[k] (Gl hk))
 have hk2:∀ k,∃ x:R5,k<rows.length→∀ j,j<5→arr[off+k*5+j]? = x.cells[j]?:=fun k=>by
  by_cases hlt:k<rows.length
  ·obtain⟨x,hx⟩:=hk k hlt
   exact⟨x,fun _=>hx⟩
  ·exact⟨R5.z,fun h=>absurd h hlt⟩
 obtain⟨f,hf⟩:=Classical.axiomOfChoice hk2
 have hget:∀ k,k<rows.length→(lst f 0 rows.length).getD k R5.z=f k:=fun k hk=>auh f R5.z hk
 have hlen:(lst f 0 rows.length).length=rows.length:=by unfold lst;rw [List.length_map,List.length_range'];rfl
 refine⟨lst f 0 rows.length,⟨_,cap,by rw [hlen],fun _=>⟨b,off,arr,t,fr,rfl,hm _ _ h6,fun k hk j hj=>?_⟩⟩,hlen.symm,fun k hk=>?_⟩
 ·rw [hlen] at hk
  rw [hget k hk]
  exact hf k hk j hj
 ·rw [hlen] at hk
  have h:=h8 k rows[k] (Gl hk)
  show RSs m sRun (rows.getD k []) _
  rw [show rows.getD k []=rows[k] by rw [Gd,Gl hk];rfl,hget k hk]
  exact h.congr fun j hj=>(hf k hk j hj).symm
theorem bql{m M:Mem}{lo:Nat}{w:World}{y:Value}{l:List R5}{rows:List (List CD)}(h:OwnR lo w y l)(hr:RelL m rows l)(hM:∀ k o,lo≤k→w.heap[k]? = some o→Nice o→M k o)(hm:∀ k o,m k o→M k o):∃ d:CD,d.rows=rows∧RS M sR d y:=by
 rcases h with ⟨rfl,rfl⟩ | ⟨blk,cap,rfl,h⟩
 ·have:rows=[]:=List.length_eq_zero_iff.1 hr.1
  subst this
  exact⟨.sl true [],rfl,.inl ⟨rfl,rfl⟩⟩
 ·obtain⟨arr,t,h1,h2,h3,h4⟩:=h.obj
  refine⟨.sl false rows,rfl,.inr (.inl ⟨rows,blk,0,cap,rfl,by rw [hr.1],by rw [hr.1];exact h.fits,Nat.le_trans h.most (by unfold maxLen maxN;omega),fun _=>⟨arr,t,(0,0),⟨hM blk _ h.old h1 ⟨arr,t,(0,0),rfl,.inl rfl,false,h4⟩,by rw [Nat.zero_add];exact h2⟩,fun i row hi=>?_⟩⟩)⟩
  have hlt:=(Ls.1 hi).1
  have hg:=hr.2 i (by rw [← hr.1];exact hlt)
  rw [show rows.getD i []=row by rw [Gd,hi];rfl] at hg
  refine(hg.mono hm).congr fun j hj=>?_
  rw [Nat.zero_add]
  exact h3 i (by rw [← hr.1];exact hlt) j hj
theorem ap1{α:Type}{l m:List α}{k:Nat}{d:α}(h:k<l.length):(l++m).getD k d=l.getD k d:=by
 rw [Gd,List.getElem?_append_left h,Gd]
theorem ap2{α:Type}{l m:List α}{k:Nat}{d:α}(h:l.length≤k):(l++m).getD k d=m.getD (k - l.length) d:=by
 rw [Gd,List.getElem?_append_right h,Gd]
theorem RelL.append{m:Mem}{r1 r2:List (List CD)}{l1 l2:List R5}(h1:RelL m r1 l1)(h2:RelL m r2 l2):RelL m (r1++r2) (l1++l2):=by
 refine⟨by rw [List.length_append,List.length_append,h1.1,h2.1],fun k hk=>?_⟩
 rw [List.length_append] at hk
 by_cases hlt:k<l1.length
 ·rw [ap1 (by rw [h1.1];exact hlt),ap1 hlt]
  exact h1.2 k hlt
 ·rw [ap2 (by rw [h1.1];omega),ap2 (by omega),h1.1]
  exact h2.2 _ (by omega)
theorem OwnA.append{lo:Nat}{w:World}{blk cap:Nat}{l news:List R5}(h:OwnA lo w blk cap l)(hr:l.length+news.length≤cap):OwnA lo (w.setCells blk (l.length*5) (flat news)) blk cap (l++news):=by
 haveI:Sg:=sg0
 obtain⟨arr,t,h1,h2,h3,h4⟩:=h.obj
 have hfl:=alu news
 refine⟨h.old,by rw [List.length_append];exact hr,h.most,?_⟩
 obtain⟨arr',g1,g2,g4,g3⟩:=ab5 (flat news) (l.length*5) w arr h1
 refine⟨arr',t,g1,by rw [g2];exact h2,fun k hk j hj=>?_,fun j u hj=>?_⟩
 ·rw [List.length_append] at hk
  by_cases hlt:k<l.length
  ·rw [ap1 hlt,g3 _ (.inl (by have:=Nat.mul_le_mul_right 5 (show k+1≤l.length from hlt);omega))]
   exact h3 k hlt j hj
  ·rw [ap2 (by omega),← flat_get (by omega) hj]
   have e:k*5+j=l.length*5+((k - l.length)*5+j):=by
    have:k*5=l.length*5+(k - l.length)*5:=by rw [← Nat.add_mul];congr 1;omega
    omega
   have h5:=Nat.mul_le_mul_right 5 (show k - l.length+1≤news.length by omega)
   have h6:=Nat.mul_le_mul_right 5 hr
   rw [Nat.add_mul] at h6
   have hlt2:(k - l.length)*5+j<(flat news).length:=by rw [hfl];omega
   rw [e,Gl hlt2]
   exact g4 _ _ (Gl hlt2) (by rw [hfl] at hlt2;omega)
 ·by_cases hin:j<l.length*5∨l.length*5+(flat news).length≤j
  ·rw [g3 j hin] at hj
   exact h4 j u hj
  ·have e:j=l.length*5+(j - l.length*5):=by omega
   have hlt:j<arr'.size:=(Ga.1 hj).1
   have hlt2:j - l.length*5<(flat news).length:=by omega
   have:=g4 (j - l.length*5) _ (Gl hlt2) (by omega)
   rw [← e,hj] at this
   have this:=Option.some.inj this
   rw [this]
   exact bbt news _ (List.getElem_mem hlt2)
theorem bl4(l m:List R5):flat (l++m)=flat l++flat m:=by
 unfold flat
 rw [List.flatMap_append]
theorem bq3{lo:Nat}{w:World}{v x:Value}{l news:List R5}(h:OwnR lo w v l)(hx:InR w x news)(hlo:lo≤w.heap.size)(hl:l.length≤10000)(hn:news.length≤10000) :
  ∃ y W,(∀ ty,(Builtin.append_ #[36,36] ty #[v,x]).run Try.prog w=.ok y W)∧Below lo w W∧OwnR lo W y (l++news)∧(∀ k,k<w.heap.size→(∀ b c,v=.slice (some ⟨b,0,none⟩) l.length c→k≠b)→W.heap[k]? = w.heap[k]?)∧((W.heap.size=w.heap.size∧∃ b c,v=.slice (some ⟨b,0,none⟩) l.length c∧y=.slice (some ⟨b,0,none⟩) (l++news).length c)∨y=nilV∨∃ c,y=.slice (some ⟨w.heap.size,0,none⟩) (l++news).length c):=by
 haveI:Sg:=sg0
 obtain⟨i0,hi0,hz0,hzs,hzb⟩:=info_parts avz
 have hsrc:=bqr hzs hx
 rcases h with ⟨rfl,rfl⟩ | ⟨blk,cap,rfl,h⟩
 ·by_cases hne:news=[]
  ·subst hne
   obtain⟨a,cap,rfl,_⟩:=hx
   refine⟨nilV,w,fun ty=>?_,Below.refl _ w,.inl ⟨rfl,rfl⟩,fun _ _ _=>rfl,.inr (.inl rfl)⟩
   have hc:=hsrc.cells
   have hu:Try.prog.underlying 36=some (.slice 27):=t36
   have hcells:∀ a:Option Addr,(Builtin.firstCells i0.size 0 (.slice a 0 cap)).run Try.prog w=.ok #[] w:=fun a=>by
    cases a with
    | none=>exact run_firstCells_none w i0.size 0 0 cap
    | some a=>exact run_firstCells_some w i0.size 0 a 0 cap [] (by simp) (fun j u hj=>by simp at hj)
   simp [Builtin.append_,run_underlying hu,sizeOf,typeInfo,hi0,Builtin.lenOf,hcells]
  ·have hpos:0<news.length:=List.length_pos_iff.2 hne
   have hr:∀ ty,(Builtin.append_ #[36,36] ty #[nilV,x]).run Try.prog w=.ok (.slice (some ⟨w.heap.size,0,none⟩) news.length (grownCap w news.length 0 27)) (w.drew.alloc (.cells ((flat news).toArray++Builtin.zeroCells zRun.cells (grownCap w news.length 0 27 - news.length)) 27)):=fun ty=>by
    have h:=run_append_grow_src w 36 36 ty 27 i0 _ t36 hi0 hz0 none 0 0 [] (run_firstCells_none w.drew i0.size 0 0 0) x news.length (flat news) hsrc (by omega) (by omega) (by rw [hzb,Nat.zero_add];exact growslice_fits (by omega) (by omega))
    simpa using h
   have hg:=grownCap_ge w news.length 0 27
   have hgx:=grownCap_le_maxLen w news.length 0 27 (by unfold maxLen;omega)
   refine⟨_,_,hr,((Below.refl _ w).drew.mono hlo).alloc hlo _,.inr ⟨w.heap.size,_,by rw [List.nil_append],?_⟩,fun k hk _=>?_,.inr (.inr ⟨_,by rw [List.nil_append]⟩)⟩
   ·rw [List.nil_append]
    exact a2i (by show(w.heap.push _)[w.heap.size]? = _;rw [Array.getElem?_push,if_pos rfl]) hlo (by omega) hgx
   ·show(w.heap.push _)[k]? = _
    rw [Array.getElem?_push,if_neg (by omega)]
 ·obtain⟨arr,t,h1,h2,h3,h4⟩:=h.obj
  have hfl:=alu news
  have hfl':=alu l
  have hfit:=h.fits
  have h5:=Nat.mul_le_mul_right 5 hfit
  by_cases hroom:l.length+news.length≤cap
  ·have h6:=Nat.mul_le_mul_right 5 hroom
   rw [Nat.add_mul] at h6
   have hr:∀ ty,(Builtin.append_ #[36,36] ty #[.slice (some ⟨blk,0,none⟩) l.length cap,x]).run Try.prog w=.ok (.slice (some ⟨blk,0,none⟩) (l.length+news.length) cap) (w.setCells blk (l.length*5) (flat news)):=fun ty=>by
    have h:=run_append_room_src (w:=w) 36 36 ty 27 i0 t36 hi0 blk 0 l.length cap x news.length (flat news) hsrc hroom (fun j hj=>by
     rw [hfl] at hj
     rw [hzs,cell?_of h1,Array.getElem?_eq_getElem (by omega)]
     rfl) (fun j hj=>by
     unfold World.frozen?
     rw [show w.heap[(⟨blk,0+l.length*i0.size+j,none⟩:Addr).block]? = _ from h1]
     simp)
    rw [hzs,Nat.zero_add] at h
    exact h
   refine⟨_,_,hr,below_setCells blk h.old _ _ _ (Below.refl lo w),.inr ⟨blk,cap,by rw [List.length_append],h.append hroom⟩,fun k hk hb=>abo (hb blk cap rfl) _ _ _,.inl ⟨size_setCells _ _ _ _,blk,cap,rfl,by rw [List.length_append]⟩⟩
  ·have hold:(Builtin.firstCells i0.size l.length (.slice (some ⟨blk,0,none⟩) l.length cap)).run Try.prog w.drew=.ok (flat l).toArray w.drew:=run_firstCells_some w.drew i0.size l.length ⟨blk,0,none⟩ l.length cap (flat l) (by rw [hzs,hfl']) (fun j u hj=>by
    have hlt:j<l.length*5:=by rw [← hfl'];exact(Ls.1 hj).1
    rw [Addr.add_lit]
    show w.cell? _=_
    rw [cell?_of h1,Nat.zero_add]
    have e:j=j / 5*5+j % 5:=by omega
    rw [e,flat_get (by omega) (Nat.mod_lt _ (by omega))] at hj
    rw [← hj,← h3 (j / 5) (by omega) (j % 5) (Nat.mod_lt _ (by omega))]
    congr 1)
   have hr:∀ ty,(Builtin.append_ #[36,36] ty #[.slice (some ⟨blk,0,none⟩) l.length cap,x]).run Try.prog w=.ok (.slice (some ⟨w.heap.size,0,none⟩) (l.length+news.length) (grownCap w (l.length+news.length) cap 27)) (w.drew.alloc (.cells ((flat (l++news)).toArray++Builtin.zeroCells zRun.cells (grownCap w (l.length+news.length) cap 27 - (l.length+news.length))) 27)):=fun ty=>by
    have h:=run_append_grow_src w 36 36 ty 27 i0 _ t36 hi0 hz0 (some ⟨blk,0,none⟩) l.length cap (flat l) hold x news.length (flat news) hsrc (by omega) (by omega) (by rw [hzb];exact growslice_fits (by omega) (by omega))
    rw [bl4]
    exact h
   have hg:=grownCap_ge w (l.length+news.length) cap 27
   have hgx:=grownCap_le_maxLen w (l.length+news.length) cap 27 (by unfold maxLen;omega)
   refine⟨_,_,hr,((Below.refl _ w).drew.mono hlo).alloc hlo _,.inr ⟨w.heap.size,_,by rw [List.length_append],?_⟩,fun k hk _=>?_,.inr (.inr ⟨_,by rw [List.length_append]⟩)⟩
   ·exact a2i (by rw [List.length_append];show(w.heap.push _)[w.heap.size]? = _;rw [Array.getElem?_push,if_pos rfl]) hlo (by rw [List.length_append];omega) hgx
   ·show(w.heap.push _)[k]? = _
    rw [Array.getElem?_push,if_neg (by omega)]
end Go.Proofs.Ytlbbkmcegbeckaa
