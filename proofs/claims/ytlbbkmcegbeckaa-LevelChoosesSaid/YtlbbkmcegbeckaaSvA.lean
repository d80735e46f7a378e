/-
  A second abstract evaluator of the model's code: cells, heaps as trees of blocks, and how they stand for the model's ones. Conditions: none; nothing here speaks of one program.
-/
import Derived.Test.YtlbbkmcegbeckaaSdT
set_option linter.all false
set_option maxRecDepth 100000
noncomputable section
namespace Go.Sx
inductive PT (α:Type) where
 | nil
 | node (v:Option α) (l r:PT α)
inductive Pa where
 | e
 | l (p:Pa)
 | r (p:Pa)
 deriving DecidableEq
noncomputable section
def a2j(fuel:Nat):Nat→Pa :=
 Nat.rec (motive:=fun _=>Nat→Pa) (fun _=>.e)
  (fun _ ih n=>Bool.rec (motive:=fun _=>Pa) (Bool.rec (motive:=fun _=>Pa) (.r (ih (Nat.div (Nat.pred n) 2))) (.l (ih (Nat.div (Nat.pred n) 2))) (Nat.beq (Nat.mod n 2) 1)) .e (Nat.beq n 0)) fuel
def path(n:Nat):Pa:=a2j (Nat.succ n) n
def PT.v{α:Type}(t:PT α):Option α:=PT.rec (motive:=fun _=>Option α) none (fun v _ _ _ _=>v) t
def PT.l{α:Type}(t:PT α):PT α:=PT.rec (motive:=fun _=>PT α) .nil (fun _ l _ _ _=>l) t
def PT.r{α:Type}(t:PT α):PT α:=PT.rec (motive:=fun _=>PT α) .nil (fun _ _ r _ _=>r) t
def PT.getP{α:Type}(p:Pa):PT α→Option α :=
 Pa.rec (motive:=fun _=>PT α→Option α) (fun t=>PT.rec (motive:=fun _=>Option α) none (fun v _ _ _ _=>v) t)
  (fun _ ih t=>ih (PT.rec (motive:=fun _=>PT α) .nil (fun _ l _ _ _=>l) t)) (fun _ ih t=>ih (PT.rec (motive:=fun _=>PT α) .nil (fun _ _ r _ _=>r) t)) p
def PT.get{α:Type}(t:PT α)(n:Nat):Option α:=PT.getP (path n) t
def PT.putP{α:Type}(a:Option α)(p:Pa):PT α→PT α :=
 Pa.rec (motive:=fun _=>PT α→PT α) (fun t=>PT.rec (motive:=fun _=>PT α) (.node a .nil .nil) (fun _ l r _ _=>.node a l r) t)
  (fun _ ih t=>PT.rec (motive:=fun _=>PT α) (.node none (ih .nil) .nil) (fun v l r _ _=>.node v (ih l) r) t)
  (fun _ ih t=>PT.rec (motive:=fun _=>PT α) (.node none .nil (ih .nil)) (fun v l r _ _=>.node v l (ih r)) t) p
def PT.put{α:Type}(t:PT α)(n:Nat)(a:Option α):PT α:=PT.putP a (path n) t
end
theorem brb(n:Nat):Nat.beq (n % 2) 1=decide (n % 2=1):=by
 by_cases h:n % 2=1
 ·rw [h];rfl
 ·have:Nat.beq (n % 2) 1=false:=by rw [Bool.eq_false_iff];intro hh;exact h (Nb hh)
  rw [this];simp [h]
theorem aqd(f n:Nat):a2j (f+1) (n+1)=if(n+1) % 2=1 then .l (a2j f (n / 2)) else .r (a2j f (n / 2)):=by
 show Bool.rec (motive:=fun _=>Pa) (.r (a2j f (n / 2))) (.l (a2j f (n / 2))) (Nat.beq ((n+1) % 2) 1)=_
 rw [brb]
 by_cases h:(n+1) % 2=1
 ·rw [if_pos h];simp only [h,decide_true]
 ·rw [if_neg h];simp only [h,decide_false]
theorem bnh:∀ (n f g:Nat),n<f→n<g→a2j f n=a2j g n:=by
 intro n
 induction n using Nat.strongRecOn with
 | ind n ih =>
  intro f g hf hg
  cases f with
  | zero=>omega
  | succ f =>
   cases g with
   | zero=>omega
   | succ g =>
    cases n with
    | zero=>rfl
    | succ n=>rw [aqd,aqd,ih (n / 2) (by omega) f g (by omega) (by omega)]
theorem a6v:path 0=.e:=rfl
theorem aks(n:Nat):path (n+1)=if(n+1) % 2=1 then .l (path (n / 2)) else .r (path (n / 2)):=by
 show a2j (n+1+1) (n+1)=_
 rw [aqd]
 unfold path
 rw [bnh (n / 2) (n+1) (Nat.succ (n / 2)) (by omega) (by omega)]
theorem bni:∀ (n m:Nat),path n=path m→n=m:=by
 intro n
 induction n using Nat.strongRecOn with
 | ind n ih =>
  intro m h
  cases n with
  | zero =>
   cases m with
   | zero=>rfl
   | succ m =>
    rw [a6v,aks] at h
    split at h<;>cases h
  | succ n =>
   cases m with
   | zero =>
    rw [a6v,aks] at h
    split at h<;>cases h
   | succ m =>
    rw [aks,aks] at h
    split at h
    ·split at h
     ·rename_i h1 h2
      injection h with h
      have:=ih (n / 2) (by omega) _ h
      omega
     ·cases h
    ·split at h
     ·cases h
     ·rename_i h1 h2
      injection h with h
      have:=ih (n / 2) (by omega) _ h
      omega
theorem PT.getP_nil{α:Type}:∀ (p:Pa),PT.getP p (.nil:PT α)=none
 | .e=>rfl
 | .l p=>PT.getP_nil p
 | .r p=>PT.getP_nil p
theorem PT.getP_putP{α:Type}(a:Option α):∀ (p q:Pa) (t:PT α),PT.getP q (PT.putP a p t)=if q=p then a else PT.getP q t
 | .e,.e,t=>by cases t<;>rfl
 | .e,.l q,.nil=>by rw [if_neg (by simp)];rfl
 | .e,.l q,.node v l r=>by rw [if_neg (by simp)];rfl
 | .e,.r q,.nil=>by rw [if_neg (by simp)];rfl
 | .e,.r q,.node v l r=>by rw [if_neg (by simp)];rfl
 | .l p,.e,.nil=>by rw [if_neg (by simp)];rfl
 | .l p,.e,.node v l r=>by rw [if_neg (by simp)];rfl
 | .r p,.e,.nil=>by rw [if_neg (by simp)];rfl
 | .r p,.e,.node v l r=>by rw [if_neg (by simp)];rfl
 | .l p,.l q,.nil=>by
  have ih:=PT.getP_putP a p q .nil
  simp only [Pa.l.injEq]
  exact ih
 | .l p,.l q,.node v l r=>by
  have ih:=PT.getP_putP a p q l
  simp only [Pa.l.injEq]
  exact ih
 | .r p,.r q,.nil=>by
  have ih:=PT.getP_putP a p q .nil
  simp only [Pa.r.injEq]
  exact ih
 | .r p,.r q,.node v l r=>by
  have ih:=PT.getP_putP a p q r
  simp only [Pa.r.injEq]
  exact ih
 | .l p,.r q,.nil=>by rw [if_neg (by simp)];rfl
 | .l p,.r q,.node v l r=>by rw [if_neg (by simp)];rfl
 | .r p,.l q,.nil=>by rw [if_neg (by simp)];rfl
 | .r p,.l q,.node v l r=>by rw [if_neg (by simp)];rfl
theorem PT.get_nil{α:Type}(n:Nat):(PT.nil:PT α).get n=none:=PT.getP_nil _
theorem PT.get_succ{α:Type}(v:Option α)(l r:PT α)(n:Nat):(PT.node v l r).get (n+1)=if(n+1) % 2=1 then l.get (n / 2) else r.get (n / 2):=by
 show PT.getP (path (n+1)) (PT.node v l r)=_
 rw [aks]
 split<;>rfl
theorem PT.get_eq{α:Type}(t:PT α)(n:Nat):t.get n=if n=0 then t.v else if n % 2=1 then t.l.get ((n - 1) / 2) else t.r.get ((n - 1) / 2):=by
 cases t with
 | nil =>
  rw [PT.get_nil]
  split
  ·rfl
  ·split<;>exact(PT.get_nil _).symm
 | node v l r =>
  cases n with
  | zero=>rfl
  | succ n =>
   rw [PT.get_succ]
   conv=>rhs;rw [if_neg (Nat.succ_ne_zero n),show n+1 - 1=n by omega]
   rfl
theorem PT.get_put{α:Type}(t:PT α)(n i:Nat)(a:Option α):(t.put n a).get i=if i=n then a else t.get i:=by
 show PT.getP (path i) (PT.putP a (path n) t)=_
 rw [PT.getP_putP]
 by_cases h:i=n
 ·subst h;rw [if_pos rfl,if_pos rfl]
 ·rw [if_neg h,if_neg fun hh=>h (bni _ _ hh)];rfl
inductive Cel where
 | lit (v:Value)
 | ptr (b off:Nat)
 | sl (b off len cap:Nat)
 | su (b off len s:Nat)
 | sz (b s:Nat)
 | fn (f:Fn) (caps:List (Nat×Nat))
 | mp (b:Nat)
 | yd (b:Nat)
 | kp (b off s:Nat)
 | us
 | un (k:IntKind)
 | sv (s:Srt) (G:List Nat) (e:X)
 | pv (w:List Srt) (G:List Nat) (e i:X) (off:Nat)
 | os (z:Bool) (b:Nat) (n:X) (s:Nat) (G:List Nat) (e:X)
 | po (b s:Nat) (i:X) (off:Nat)
 deriving Inhabited
theorem bhd{v:Value}(h:abw v=true):v.oneCell'=true:=by
 cases v<;>first | rfl | cases h
structure Loc where
 B:Nat
 o:Nat
 C:Nat
 M:Option Mem
abbrev PM:=Nat→Option Loc
def PM.at(ρ:PM)(G:List Nat):Mem:=fun k o=>∃ g∈G,∃ L M,ρ g=some L∧L.M=some M∧M k o
def All2{α β:Type}(R:α→β→Prop):List α→List β→Prop
 | [],[]=>True
 | a::as,b::bs=>R a b∧All2 R as bs
 | _,_=>False
variable [Sg]
def CRel(ρ:PM):Cel→Value→Prop
 | .lit v,u=>u=v∧abw v=true
 | .ptr b off,u=>∃ L,ρ b=some L∧u=.pointer (some ⟨L.B,L.o+off,none⟩)
 | .sl b off len cap,u=>(∃ L,ρ b=some L∧u=.slice (some ⟨L.B,L.o+off,none⟩) len cap)∧len≤cap∧cap≤9223372036854775807
 | .su b off len s,u=>∃ L cap,ρ b=some L∧u=.slice (some ⟨L.B,L.o+off,none⟩) len cap∧len≤cap∧cap≤9223372036854775807∧L.o+off+cap*s=L.C
 | .sz b s,u=>∃ L off cap,ρ b=some L∧u=.slice (some ⟨L.B,off,none⟩) 0 cap∧cap≤9223372036854775807∧L.o≤off∧off+cap*s≤L.C∧(cap=0∨off+cap*s=L.C)
 | .fn f caps,u=>∃ us:Array Value,u=.func f #[] us∧All2 (fun p v=>∃ L,ρ p.1=some L∧v=.pointer (some ⟨L.B,L.o+p.2,none⟩)) caps us.toList
 | .mp b,u=>∃ L,ρ b=some L∧u=.map (some L.B)
 | .yd b,u=>∃ L,ρ b=some L∧u=.func (.yield L.B) #[] #[]
 | .kp b off s,u=>∃ L,∃ cap:Nat,ρ b=some L∧u=.int .i64 cap∧cap≤9223372036854775807∧0<s∧L.o+off+cap*s=L.C
 | .us,u=>∃ a n c,u=.slice a n c∧n≤9223372036854775807
 | .un k,u=>∃ n,u=.int k n∧abw (.int k n)=true
 | .sv s G e,u=>(∀ g∈G,∃ L,ρ g=some L)∧RS (ρ.at G) s (den e) u
 | .pv w G e i off,u=>(∀ g∈G,∃ L,ρ g=some L)∧∃ b o cap,RS (ρ.at G) (.sl w) (den e) (.slice (some ⟨b,o,none⟩) (den e).rows.length cap)∧0≤(den i).iv∧(den i).iv<(den e).rows.length∧u=.pointer (some ⟨b,o+(den i).iv.toNat*w.length+off,none⟩)
 | .os z b n s G e,u=>(∀ g∈G,∃ L,ρ g=some L)∧((z=true∧(den n).iv=0∧(den e).rows=[]∧u=.slice none 0 0)∨(¬ (z=true∧(den n).iv=0)∧∃ (L:Loc) (k cap:Nat),ρ b=some L∧(den n).iv=k∧u=.slice (some ⟨L.B,L.o,none⟩) k cap∧k≤cap∧cap≤9223372036854775807∧0<s∧L.o+cap*s+1=L.C))
 | .po b s i off,u=>∃ L,ρ b=some L∧0≤(den i).iv∧u=.pointer (some ⟨L.B,L.o+((den i).iv.toNat*s+off),none⟩)
theorem All2.mono{α β:Type}{R R':α→β→Prop}(h:∀ a b,R a b→R' a b):∀ {as:List α} {bs:List β},All2 R as bs→All2 R' as bs
 | [],[],_=>trivial
 | _::_,_::_,⟨h1,h2⟩=>⟨h _ _ h1,h2.mono h⟩
 | [],_::_,h=>h
 | _::_,[],h=>h
theorem All2.length{α β:Type}{R:α→β→Prop}:∀ {as:List α} {bs:List β},All2 R as bs→as.length=bs.length
 | [],[],_=>rfl
 | _::_,_::_,⟨_,h2⟩=>by simp [h2.length]
 | [],_::_,h=>h.elim
 | _::_,[],h=>h.elim
theorem All2.get{α β:Type}{R:α→β→Prop}:∀ {as:List α} {bs:List β},All2 R as bs→∀ (i:Nat) (a:α),as[i]? = some a→∃ b,bs[i]? = some b∧R a b
 | [],[],_,i,a,h=>by simp at h
 | x::_,y::_,⟨h1,h2⟩,0,a,h=>by
  simp only [List.getElem?_cons_zero,Oi] at h
  subst h
  exact⟨y,by simp,h1⟩
 | _::_,_::_,⟨_,h2⟩,i+1,a,h=>by
  simp only [List.getElem?_cons_succ] at h ⊢
  exact h2.get i a h
 | [],_::_,h,_,_,_=>h.elim
 | _::_,[],h,_,_,_=>h.elim
theorem All2.get'{α β:Type}{R:α→β→Prop}:∀ {as:List α} {bs:List β},All2 R as bs→∀ (i:Nat) (b:β),bs[i]? = some b→∃ a,as[i]? = some a∧R a b
 | [],[],_,i,b,h=>by simp at h
 | x::_,y::_,⟨h1,h2⟩,0,b,h=>by
  simp only [List.getElem?_cons_zero,Oi] at h
  subst h
  exact⟨x,by simp,h1⟩
 | _::_,_::_,⟨_,h2⟩,i+1,b,h=>by
  simp only [List.getElem?_cons_succ] at h ⊢
  exact h2.get' i b h
 | [],_::_,h,_,_,_=>h.elim
 | _::_,[],h,_,_,_=>h.elim
theorem All2.of_get{α β:Type}{R:α→β→Prop}:∀ {as:List α} {bs:List β},as.length=bs.length→(∀ (i:Nat) (a:α) (b:β),as[i]? = some a→bs[i]? = some b→R a b)→All2 R as bs
 | [],[],_,_=>trivial
 | a::as,b::bs,hl,h=>⟨h 0 a b (by simp) (by simp),All2.of_get (by simpa using hl) fun i x y hx hy=>h (i+1) x y (by simpa using hx) (by simpa using hy)⟩
 | [],_::_,hl,_=>by simp at hl
 | _::_,[],hl,_=>by simp at hl
theorem All2.append{α β:Type}{R:α→β→Prop}:∀ {as:List α} {bs:List β} {as':List α} {bs':List β},All2 R as bs→All2 R as' bs'→All2 R (as++as') (bs++bs')
 | [],[],_,_,_,h=>h
 | _::_,_::_,_,_,⟨h1,h2⟩,h=>⟨h1,h2.append h⟩
 | [],_::_,_,_,h,_=>h.elim
 | _::_,[],_,_,h,_=>h.elim
theorem All2.drop{α β:Type}{R:α→β→Prop}:∀ (n:Nat) {as:List α} {bs:List β},All2 R as bs→All2 R (as.drop n) (bs.drop n)
 | 0,_,_,h=>h
 | _+1,[],[],_=>trivial
 | n+1,_::_,_::_,⟨_,h2⟩=>h2.drop n
 | _+1,[],_::_,h=>h.elim
 | _+1,_::_,[],h=>h.elim
theorem All2.take{α β:Type}{R:α→β→Prop}:∀ (n:Nat) {as:List α} {bs:List β},All2 R as bs→All2 R (as.take n) (bs.take n)
 | 0,_,_,_=>by simp [All2]
 | _+1,[],[],_=>trivial
 | n+1,_::_,_::_,⟨h1,h2⟩=>⟨h1,h2.take n⟩
 | _+1,[],_::_,h=>h.elim
 | _+1,_::_,[],h=>h.elim
theorem All2.set{α β:Type}{R:α→β→Prop}{x:α}{y:β}(hxy:R x y):∀ (n:Nat) {as:List α} {bs:List β},All2 R as bs→All2 R (as.set n x) (bs.set n y)
 | 0,[],[],_=>trivial
 | 0,_::_,_::_,⟨_,h2⟩=>⟨hxy,h2⟩
 | _+1,[],[],_=>trivial
 | n+1,_::_,_::_,⟨h1,h2⟩=>⟨h1,h2.set hxy n⟩
 | 0,[],_::_,h=>h.elim
 | 0,_::_,[],h=>h.elim
 | _+1,[],_::_,h=>h.elim
 | _+1,_::_,[],h=>h.elim
theorem All2.replicate{α β:Type}{R:α→β→Prop}{x:α}{y:β}(h:R x y):∀ n:Nat,All2 R (List.replicate n x) (List.replicate n y)
 | 0=>trivial
 | n+1=>⟨h,All2.replicate h n⟩
inductive AV where
 | one (c:Cel)
 | agg (xs:List Cel)
 | tup (vs:List (Bool×List Cel))
 deriving Inhabited
def PRel(ρ:PM):Bool×List Cel→Value→Prop
 | (true,xs),u=>∃ us,u=.agg us∧All2 (CRel ρ) xs us.toList
 | (false,[c]),u=>CRel ρ c u
 | _,_=>False
def VRel(ρ:PM):AV→Value→Prop
 | .one c,u=>CRel ρ c u
 | .agg xs,u=>∃ us,u=.agg us∧All2 (CRel ρ) xs us.toList
 | .tup vs,u=>∃ us,u=.tuple us∧All2 (PRel ρ) vs us.toList
def PM.le(ρ ρ':PM):Prop:=∀ b x,ρ b=some x→ρ' b=some x
theorem PM.le.refl(ρ:PM):PM.le ρ ρ:=fun _ _ h=>h
theorem PM.le.trans{ρ ρ' ρ'':PM}(h:PM.le ρ ρ')(h':PM.le ρ' ρ''):PM.le ρ ρ'':=fun b x hx=>h' b x (h b x hx)
theorem PM.at_mono{ρ ρ':PM}(h:PM.le ρ ρ')(G:List Nat):∀ k o,ρ.at G k o→ρ'.at G k o:=fun k o ⟨g,h1,L,M,h2,h3⟩=>⟨g,h1,L,M,h g L h2,h3⟩
theorem PM.at_back{ρ ρ':PM}(h:PM.le ρ ρ'){G:List Nat}(hG:∀ g∈G,∃ L,ρ g=some L):∀ k o,ρ'.at G k o→ρ.at G k o:=fun k o ⟨g,h1,L,M,h2,h3⟩=>by
 obtain⟨L',h4⟩:=hG g h1
 have:=h g L' h4
 rw [h2] at this
 cases this
 exact⟨g,h1,L,M,h4,h3⟩
theorem CRel.mono{ρ ρ':PM}(h:PM.le ρ ρ'):∀ {c:Cel} {u:Value},CRel ρ c u→CRel ρ' c u
 | .lit _,_,hc=>hc
 | .ptr _ _,_,⟨L,h1,h2⟩=>⟨L,h _ _ h1,h2⟩
 | .sl _ _ _ _,_,⟨⟨L,h1,h2⟩,h3⟩=>⟨⟨L,h _ _ h1,h2⟩,h3⟩
 | .su _ _ _ _,_,⟨L,cap,h1,h2⟩=>⟨L,cap,h _ _ h1,h2⟩
 | .sz _ _,_,⟨L,off,cap,h1,h2⟩=>⟨L,off,cap,h _ _ h1,h2⟩
 | .fn _ _,_,⟨us,h1,h2⟩=>⟨us,h1,h2.mono fun _ _ ⟨L,h3,h4⟩=>⟨L,h _ _ h3,h4⟩⟩
 | .mp _,_,⟨L,h1,h2⟩=>⟨L,h _ _ h1,h2⟩
 | .yd _,_,⟨L,h1,h2⟩=>⟨L,h _ _ h1,h2⟩
 | .kp _ _ _,_,⟨L,cap,h1,h2⟩=>⟨L,cap,h _ _ h1,h2⟩
 | .us,_,hc=>hc
 | .un _,_,hc=>hc
 | .sv _ G _,_,⟨h1,h2⟩=>⟨fun g hg=>let ⟨L,hL⟩:=h1 g hg;⟨L,h _ _ hL⟩,h2.mono (PM.at_mono h G)⟩
 | .pv _ G _ _ _,_,⟨h1,b,o,cap,h2,h3⟩=>⟨fun g hg=>let ⟨L,hL⟩:=h1 g hg;⟨L,h _ _ hL⟩,b,o,cap,h2.mono (PM.at_mono h G),h3⟩
 | .os _ _ _ _ _ _,_,⟨hG,.inl h1⟩=>⟨fun g hg=>let ⟨L,hL⟩:=hG g hg;⟨L,h _ _ hL⟩,.inl h1⟩
 | .os _ _ _ _ _ _,_,⟨hG,.inr ⟨h0,L,k,cap,h1,h2⟩⟩=>⟨fun g hg=>let ⟨L,hL⟩:=hG g hg;⟨L,h _ _ hL⟩,.inr ⟨h0,L,k,cap,h _ _ h1,h2⟩⟩
 | .po _ _ _ _,_,⟨L,h1,h2⟩=>⟨L,h _ _ h1,h2⟩
theorem PRel.mono{ρ ρ':PM}(h:PM.le ρ ρ'):∀ {p:Bool×List Cel} {u:Value},PRel ρ p u→PRel ρ' p u
 | (true,_),_,⟨us,h1,h2⟩=>⟨us,h1,h2.mono fun _ _=>CRel.mono h⟩
 | (false,[_]),_,hc=>CRel.mono (ρ:=ρ) h hc
 | (false,[]),_,hc=>hc.elim
 | (false,_::_::_),_,hc=>hc.elim
theorem VRel.mono{ρ ρ':PM}(h:PM.le ρ ρ'):∀ {v:AV} {u:Value},VRel ρ v u→VRel ρ' v u
 | .one _,_,hc=>CRel.mono h hc
 | .agg _,_,⟨us,h1,h2⟩=>⟨us,h1,h2.mono fun _ _=>CRel.mono h⟩
 | .tup _,_,⟨us,h1,h2⟩=>⟨us,h1,h2.mono fun _ _=>PRel.mono h⟩
theorem CRel.oneCell{ρ:PM}:∀ {c:Cel} {u:Value},CRel ρ c u→u.oneCell'=true
 | .lit _,_,⟨h1,h2⟩=>h1 ▸ bhd h2
 | .ptr _ _,_,⟨_,_,h2⟩=>by subst h2;rfl
 | .sl _ _ _ _,_,⟨⟨_,_,h2⟩,_⟩=>by subst h2;rfl
 | .su _ _ _ _,_,⟨_,_,_,h2,_⟩=>by subst h2;rfl
 | .sz _ _,_,⟨_,_,_,_,h2,_⟩=>by subst h2;rfl
 | .fn _ _,_,⟨_,h2,_⟩=>by subst h2;rfl
 | .mp _,_,⟨_,_,h2⟩=>by subst h2;rfl
 | .yd _,_,⟨_,_,h2⟩=>by subst h2;rfl
 | .kp _ _ _,_,⟨_,_,_,h2,_⟩=>by subst h2;rfl
 | .us,_,⟨_,_,_,h2,_⟩=>by subst h2;rfl
 | .un _,_,⟨_,h2,_⟩=>by subst h2;rfl
 | .sv _ _ _,_,⟨_,h2⟩=>h2.oneCell
 | .pv _ _ _ _ _,_,⟨_,_,_,_,_,_,_,h2⟩=>by subst h2;rfl
 | .os _ _ _ _ _ _,_,⟨_,.inl ⟨_,_,_,h2⟩⟩=>by subst h2;rfl
 | .os _ _ _ _ _ _,_,⟨_,.inr ⟨_,_,_,_,_,_,h2,_⟩⟩=>by subst h2;rfl
 | .po _ _ _ _,_,⟨_,_,_,h2⟩=>by subst h2;rfl
def AV.cels:AV→Option (List Cel)
 | .one c=>some [c]
 | .agg xs=>some xs
 | .tup _=>none
theorem atz{u:Value}(h:u.oneCell'=true):u.cells = #[u]:=by
 cases u<;>first | rfl | cases h
theorem VRel.cels{ρ:PM}{v:AV}{u:Value}{cs:List Cel}(h:VRel ρ v u)(hc:v.cels=some cs):All2 (CRel ρ) cs u.cells.toList:=by
 cases v with
 | one c =>
  simp only [AV.cels,Oi] at hc
  subst hc
  have h':CRel ρ c u:=h
  rw [atz h'.oneCell]
  exact⟨h',trivial⟩
 | agg xs =>
  simp only [AV.cels,Oi] at hc
  subst hc
  obtain⟨us,rfl,h2⟩:=h
  exact h2
 | tup vs=>cases hc
abbrev Ent:=(Bool×List Cel)×(Bool×List Cel)×Nat
inductive Ct where
 | c (x:Cel)
 | map (es:List Ent) (clock:Nat)
 | iter (m:Option Nat) (since:Nat) (seen:List Nat) (stepped:Nat)
 | loop (st:LoopState) (pend:Option Code) (n:Nat) (F:PT AV) (k:Nat)
 | room
 | rows (w:List Srt) (G:List Nat) (e n:X)
 | mx (kw:List Srt) (va:Bool) (vw:List Srt) (e c:X)
 | ix (m:Nat) (s c:X)
 deriving Inhabited
def auu(ρ:PM)(e:Ent)(m:MapEntry):Prop:=PRel ρ e.1 m.key∧PRel ρ e.2.1 m.val∧m.born=e.2.2
def PlR(ag:Bool)(ws:List Srt)(ds:List CD)(u:Value):Prop:=∃ us:List Value,u=(if ag then .agg us.toArray else us.getD 0 undef)∧us.length=ws.length∧(ag=false→ws.length=1)∧RSs (fun _ _=>False) ws ds (fun j=>us[j]?)
def bqv(kw:List Srt)(va:Bool)(vw:List Srt)(rows:List (List CD))(ms:List MapEntry)(clock:Nat):Prop :=
 All2 (fun(row:List CD) (m:MapEntry)=>∃ kr vr,row=kr++(vr++[.v (.int .i64 m.born)])∧m.born<clock∧PlR false kw kr m.key∧PlR va vw vr m.val) rows ms∧ms.Pairwise fun a b=>a.born<b.born
def UF(fr:Nat×Nat)(n:Nat):Prop:=fr.1=fr.2∨n≤fr.1
def is8:Value→Bool
 | .int .u8 _=>true
 | _=>false
def s8:Srt→Bool
 | .int .u8=>true
 | _=>false
def uniS(ss:List Srt):Bool:=ss.all s8||ss.all fun s=>!s8 s
def zok(ws:List Srt)(zs:Array Value):Bool:=zs.toList.all fun u=>!uniS ws||(is8 u==ws.all s8)
def UFU(ss:List Srt)(fr:Nat×Nat)(arr:Array Value):Prop:=UF fr arr.size∧(uniS ss=true→∀ (j:Nat) (u:Value),arr[j]? = some u→is8 u=ss.all s8)
def Nice(o:Obj):Prop:=∃ arr t fr,o=.cells arr t fr∧UF fr arr.size∧∃ b:Bool,∀ (j:Nat) (u:Value),arr[j]? = some u→is8 u=b
def aei(ρ:PM)(w:World)(L:Loc)(i:Nat):Ct→Prop
 | .c x=>∃ arr t fr u,w.heap[L.B]? = some (.cells arr t fr)∧UF fr arr.size∧arr.size=L.C∧arr[L.o+i]? = some u∧CRel ρ x u
 | .map es clock=>i=0∧L.o=0∧∃ arr,w.heap[L.B]? = some (.map arr clock)∧All2 (auu ρ) es arr.toList
 | .iter m since seen stepped=>i=0∧L.o=0∧∃ mm,w.heap[L.B]? = some (.mapIter mm since seen.toArray stepped) ∧
   match m with | none=>mm=none | some b=>∃ K,ρ b=some K∧mm=some K.B
 | .loop st pend n F k=>i=0∧L.o=0∧∃ r:Loop,w.heap[L.B]? = some (.loop r)∧r.state=st∧r.pending=pend∧r.params=(Us.lc k).ps∧r.assign=(Us.lc k).assign∧r.body=(Us.lc k).body∧r.tmps.size=n ∧
   ∀ t v,F.get t=some v→∃ u,r.tmps[t]? = some u∧VRel ρ v u
 | .room=>∃ arr t fr,w.heap[L.B]? = some (.cells arr t fr)∧UF fr arr.size∧arr.size=L.C∧L.o+i<arr.size
 | .rows ss G e n=>i=0∧(∀ g∈G,∃ L,ρ g=some L)∧(den n).iv=(den e).rows.length∧∃ arr t fr,w.heap[L.B]? = some (.cells arr t fr)∧UFU ss fr arr∧arr.size+1=L.C∧L.o+(den e).rows.length*ss.length≤arr.size∧(den e).rows.length≤maxN ∧
   ∀ i row,(den e).rows[i]? = some row→RSs (ρ.at G) ss row fun j=>arr[L.o+i*ss.length+j]?
 | .mx kw va vw e c=>i=0∧L.o=0∧∃ arr clock,w.heap[L.B]? = some (.map arr clock)∧den c=.v (.int .i64 clock)∧bqv kw va vw (den e).rows arr.toList clock
 | .ix m s c=>i=0∧L.o=0∧∃ K since seen,ρ m=some K∧w.heap[L.B]? = some (.mapIter (some K.B) since (List.toArray seen) since)∧den c=.v (.int .i64 since)∧(den s).rows=seen.map fun n:Nat=>[.v (.int .i64 n)]
theorem aei.mono{ρ ρ':PM}(h:PM.le ρ ρ'){w:World}{L:Loc}{i:Nat}:∀ {x:Ct},aei ρ w L i x→aei ρ' w L i x
 | .c _,⟨arr,t,fr,u,h1,h2,h3,h4,h5⟩=>⟨arr,t,fr,u,h1,h2,h3,h4,h5.mono h⟩
 | .map _ _,⟨h1,h2,arr,h3,h4⟩=>⟨h1,h2,arr,h3,h4.mono fun _ _ ⟨a,b,c⟩=>⟨a.mono h,b.mono h,c⟩⟩
 | .iter none _ _ _,h0=>h0
 | .iter (some b) _ _ _,⟨h1,h2,mm,h3,K,h4,h5⟩=>⟨h1,h2,mm,h3,K,h _ _ h4,h5⟩
 | .loop _ _ _ _ _,⟨h1,h2,r,h3,h4,h5,h6,h7,h8,h9,h10⟩=>⟨h1,h2,r,h3,h4,h5,h6,h7,h8,h9,fun t v hv=>let ⟨u,g1,g2⟩:=h10 t v hv;⟨u,g1,g2.mono h⟩⟩
 | .room,h0=>h0
 | .rows _ G _ _,⟨h0,hG,hn,arr,t,fr,h1,h2,h3,h4,h5,h6⟩=>⟨h0,fun g hg=>let ⟨L,hL⟩:=hG g hg;⟨L,h _ _ hL⟩,hn,arr,t,fr,h1,h2,h3,h4,h5,fun i row hi=>(h6 i row hi).mono (PM.at_mono h G)⟩
 | .mx _ _ _ _ _,h0=>h0
 | .ix _ _ _,⟨h1,h2,K,since,seen,h3,h4⟩=>⟨h1,h2,K,since,seen,h _ _ h3,h4⟩
theorem aei.of_heap{ρ:PM}{w w':World}{L:Loc}{i:Nat}(h:w'.heap[L.B]? = w.heap[L.B]?):∀ {x:Ct},aei ρ w L i x→aei ρ w' L i x
 | .c _,⟨arr,t,fr,u,h1,h2⟩=>⟨arr,t,fr,u,h.trans h1,h2⟩
 | .map _ _,⟨h1,h2,arr,h3,h4⟩=>⟨h1,h2,arr,h.trans h3,h4⟩
 | .iter _ _ _ _,⟨h1,h2,mm,h3,h4⟩=>⟨h1,h2,mm,h.trans h3,h4⟩
 | .loop _ _ _ _ _,⟨h1,h2,r,h3,h4⟩=>⟨h1,h2,r,h.trans h3,h4⟩
 | .room,⟨arr,t,fr,h1,h2⟩=>⟨arr,t,fr,h.trans h1,h2⟩
 | .rows _ _ _ _,⟨h0,hG,hn,arr,t,fr,h1,h2⟩=>⟨h0,hG,hn,arr,t,fr,h.trans h1,h2⟩
 | .mx _ _ _ _ _,⟨h1,h2,arr,clock,h3,h4⟩=>⟨h1,h2,arr,clock,h.trans h3,h4⟩
 | .ix _ _ _,⟨h1,h2,K,since,seen,h3,h4,h5⟩=>⟨h1,h2,K,since,seen,h3,h.trans h4,h5⟩
theorem aei.lt{ρ:PM}{w:World}{L:Loc}{i:Nat}:∀ {x:Ct},aei ρ w L i x→L.B<w.heap.size
 | .c _,⟨_,_,_,_,h1,_⟩=>(Ga.1 h1).1
 | .map _ _,⟨_,_,_,h3,_⟩=>(Ga.1 h3).1
 | .iter _ _ _ _,⟨_,_,_,h3,_⟩=>(Ga.1 h3).1
 | .loop _ _ _ _ _,⟨_,_,_,h3,_⟩=>(Ga.1 h3).1
 | .room,⟨_,_,_,h1,_⟩=>(Ga.1 h1).1
 | .rows _ _ _ _,⟨_,_,_,_,_,_,h1,_⟩=>(Ga.1 h1).1
 | .mx _ _ _ _ _,⟨_,_,_,_,h1,_⟩=>(Ga.1 h1).1
 | .ix _ _ _,⟨_,_,_,_,_,_,h1,_⟩=>(Ga.1 h1).1
inductive Bk where
 | lf (l:List (Option Ct))
 | fl (n:Nat) (c:Cel)
 | nd (n:Nat) (l r:Bk)
def Bk.get(k:Bk)(i:Nat):Option Ct :=
 Bk.rec (motive:=fun _=>Nat→Option Ct) (fun l i=>(l[i]?).join) (fun n c i=>if i<n then some (.c c) else none) (fun n _ _ gl gr i=>if i<n then gl i else gr (i - n)) k i
theorem Bk.get_lf(l:List (Option Ct))(i:Nat):Bk.get (.lf l) i=(l[i]?).join:=rfl
theorem Bk.get_fl(n:Nat)(c:Cel)(i:Nat):Bk.get (.fl n c) i=if i<n then some (.c c) else none:=rfl
theorem Bk.get_nd(n:Nat)(l r:Bk)(i:Nat):Bk.get (.nd n l r) i=if i<n then l.get i else r.get (i - n):=rfl
structure HP where
 t:PT Bk
 n:Nat
 lo:Nat
 hy:List X
 nv:Nat
def HP.cell(H:HP)(b i:Nat):Option Ct:=(H.t.get b).bind (Bk.get · i)
theorem HP.cell_nil{n lo b i nv:Nat}{hy:List X}{c:Ct}(h:(⟨.nil,n,lo,hy,nv⟩:HP).cell b i=some c):False:=by
 unfold HP.cell at h
 rw [PT.get_nil] at h
 cases h
def HP.Kn(H:HP)(b:Nat):Prop:=∃ i c,H.cell b i=some c
structure HRel (ρ:PM) (H:HP) (w:World):Prop where
 rel:∀ b i c L,H.cell b i=some c→ρ b=some L→aei ρ w L i c
 inj:∀ b b' L L',H.Kn b→H.Kn b'→ρ b=some L→ρ b'=some L'→L.B=L'.B→b=b'
 hy:Holds H.hy
def Dom(ρ:PM)(n:Nat):Prop:=∀ b,n≤b→ρ b=none
def TJ(ρ:PM)(H:HP)(w:World):Prop:=∀ x∈bzv,(∃ o,w.heap[x.1]? = some o∧x.2 o)∧∀ b L',H.Kn b→ρ b=some L'→L'.B≠x.1
def J(ρ:PM)(H:HP)(w:World):Prop:=TJ ρ H w∧∀ g L M,ρ g=some L→L.M=some M→∀ k o,M k o→w.heap[k]? = some o∧∀ b L',H.Kn b→ρ b=some L'→L'.B≠k
theorem TJ.tw{ρ:PM}{H:HP}{w:World}(t:TJ ρ H w):TW w:=fun x hx=>(t x hx).1
theorem J.tw{ρ:PM}{H:HP}{w:World}(t:J ρ H w):TW w:=t.1.tw
theorem TJ.keep{ρ ρ':PM}{H H':HP}{w w':World}(hj:TJ ρ H w)(hd:Dom ρ H.n)(knc:∀ b i,b<H.n→H.cell b i=none→H'.cell b i=none)(fr:∀ k,k<w.heap.size→(∀ b L,H.Kn b→ρ b=some L→L.B≠k)→w'.heap[k]? = w.heap[k]?)
  (new:∀ b L,ρ b=none→ρ' b=some L→w.heap.size≤L.B∨∃ b0 L0,H.Kn b0∧ρ b0=some L0∧L0.B=L.B) (le:PM.le ρ ρ'):TJ ρ' H' w':=by
 intro x hx
 obtain⟨⟨o,h1,h2⟩,h3⟩:=hj x hx
 have hlt:=(Ga.1 h1).1
 refine⟨⟨o,by rw [fr _ hlt h3];exact h1,h2⟩,fun b L' hb hL'=>?_⟩
 cases h4:ρ b with
 | some L1 =>
  have:=le b L1 h4
  rw [hL'] at this
  cases this
  exact h3 b L' (by
   obtain⟨i,c,hc⟩:=hb
   refine⟨i,?_⟩
   cases h5:H.cell b i with
   | some c'=>exact⟨c',rfl⟩
   | none =>
    have hb:b<H.n:=by
     rcases Nat.lt_or_ge b H.n with h | h
     ·exact h
     ·rw [hd b h] at h4;cases h4
    rw [knc b i hb h5] at hc;cases hc) h4
 | none =>
  rcases new b L' h4 hL' with h5 | ⟨b0,L0,g1,g2,g3⟩
  ·omega
  ·rw [← g3];exact h3 b0 L0 g1 g2
theorem J.world{ρ:PM}{H:HP}{w w':World}(hj:J ρ H w)(hs:∀ k,k<w.heap.size→w'.heap[k]? = w.heap[k]?):J ρ H w' :=
 ⟨fun x hx=>⟨hj.1.tw.keep hs x hx,(hj.1 x hx).2⟩,fun g L M hg hM k o ho=>⟨by rw [hs k (Ga.1 (hj.2 g L M hg hM k o ho).1).1];exact(hj.2 g L M hg hM k o ho).1,(hj.2 g L M hg hM k o ho).2⟩⟩
structure Sim (ρ:PM) (H:HP) (w:World) (ρ':PM) (H':HP) (w':World):Prop where
 le:PM.le ρ ρ'
 grow:H.n≤H'.n
 dom:Dom ρ' H'.n
 rel:HRel ρ' H' w'
 knc:∀ b i,b<H.n→H.cell b i=none→H'.cell b i=none
 fr:∀ k,k<w.heap.size→(∀ b L,H.Kn b→ρ b=some L→L.B≠k)→w'.heap[k]? = w.heap[k]?
 new:∀ b L,ρ b=none→ρ' b=some L→w.heap.size≤L.B∨∃ b0 L0,H.Kn b0∧ρ b0=some L0∧L0.B=L.B
 size:w.heap.size≤w'.heap.size
 os:w'.os=w.os
 tape:w'.tape=w.tape
 output:w'.output=w.output
 old:∀ b L,ρ b=none→ρ' b=some L→H.n≤b
 jj:J ρ H w→J ρ' H' w'
 ro:∀ g L M k o,ρ g=none→ρ' g=some L→L.M=some M→M k o→(w.heap.size≤k∨∃ b0 L0,H.Kn b0∧ρ b0=some L0∧L0.B=k)∧Nice o
structure Sim0 (ρ:PM) (H:HP) (w:World) (ρ':PM) (H':HP) (w':World):Prop where
 le:PM.le ρ ρ'
 grow:H.n≤H'.n
 dom:Dom ρ' H'.n
 rel:HRel ρ' H' w'
 knc:∀ b i,b<H.n→H.cell b i=none→H'.cell b i=none
 fr:∀ k,k<w.heap.size→(∀ b L,H.Kn b→ρ b=some L→L.B≠k)→w'.heap[k]? = w.heap[k]?
 new:∀ b L,ρ b=none→ρ' b=some L→w.heap.size≤L.B∨∃ b0 L0,H.Kn b0∧ρ b0=some L0∧L0.B=L.B
 size:w.heap.size≤w'.heap.size
 os:w'.os=w.os
 tape:w'.tape=w.tape
 output:w'.output=w.output
 old:∀ b L,ρ b=none→ρ' b=some L→H.n≤b
theorem J.keep{ρ ρ':PM}{H H':HP}{w w':World}(hj:J ρ H w)(hd:Dom ρ H.n)(knc:∀ b i,b<H.n→H.cell b i=none→H'.cell b i=none)(fr:∀ k,k<w.heap.size→(∀ b L,H.Kn b→ρ b=some L→L.B≠k)→w'.heap[k]? = w.heap[k]?)
  (new:∀ b L,ρ b=none→ρ' b=some L→w.heap.size≤L.B∨∃ b0 L0,H.Kn b0∧ρ b0=some L0∧L0.B=L.B) (le:PM.le ρ ρ') (nr:∀ b L,ρ b=none→ρ' b=some L→L.M=none):J ρ' H' w':=by
 refine⟨hj.1.keep hd knc fr new le,fun g L M hg hM k o hk=>?_⟩
 cases h0:ρ g with
 | none=>rw [nr g L h0 hg] at hM;cases hM
 | some L0 =>
  have:=le g L0 h0
  rw [hg] at this
  cases this
  obtain⟨h1,h2⟩:=hj.2 g L M h0 hM k o hk
  have hlt:=(Ga.1 h1).1
  refine⟨by rw [fr k hlt h2];exact h1,fun b L' hb hL'=>?_⟩
  cases h3:ρ b with
  | some L1 =>
   have:=le b L1 h3
   rw [hL'] at this
   cases this
   refine h2 b L' ?_ h3
   obtain⟨i,c,hc⟩:=hb
   cases hh:H.cell b i with
   | some c'=>exact⟨i,c',hh⟩
   | none =>
    have hbn:b<H.n:=by
     rcases Nat.lt_or_ge b H.n with h4 | h4
     ·exact h4
     ·rw [hd b h4] at h3;cases h3
    rw [knc b i hbn hh] at hc;cases hc
  | none =>
   rcases new b L' h3 hL' with h4 | ⟨b0,L0,h4,h5,h6⟩
   ·omega
   ·rw [← h6];exact h2 b0 L0 h4 h5
theorem Sim0.up{ρ ρ':PM}{H H':HP}{w w':World}(s:Sim0 ρ H w ρ' H' w')(hd:Dom ρ H.n)(nr:∀ b L,ρ b=none→ρ' b=some L→L.M=none):Sim ρ H w ρ' H' w' where
 le:=s.le
 grow:=s.grow
 dom:=s.dom
 rel:=s.rel
 knc:=s.knc
 fr:=s.fr
 new:=s.new
 size:=s.size
 os:=s.os
 tape:=s.tape
 output:=s.output
 old:=s.old
 jj:=fun hj=>hj.keep hd s.knc s.fr s.new s.le nr
 ro:=fun g L M k o h1 h2 h3=>by rw [nr g L h1 h2] at h3;cases h3
theorem Sim0.same{ρ:PM}{H H':HP}{w w':World}(s:Sim0 ρ H w ρ H' w')(hd:Dom ρ H.n):Sim ρ H w ρ H' w':=s.up hd fun b L h1 h2=>by rw [h1] at h2;cases h2
theorem Sim.kn{ρ ρ':PM}{H H':HP}{w w':World}(h:Sim ρ H w ρ' H' w'){b:Nat}(hb:b<H.n)(hk:H'.Kn b):H.Kn b:=by
 obtain⟨i,c,hc⟩:=hk
 cases hh:H.cell b i with
 | some c'=>exact⟨i,c',hh⟩
 | none=>rw [h.knc b i hb hh] at hc;cases hc
theorem Dom.lt{ρ:PM}{n b:Nat}{L:Loc}(h:Dom ρ n)(hb:ρ b=some L):b<n:=by
 rcases Nat.lt_or_ge b n with h1 | h1
 ·exact h1
 ·rw [h b h1] at hb;cases hb
theorem Sim.refl{ρ:PM}{H:HP}{w:World}(h:HRel ρ H w)(hd:Dom ρ H.n):Sim ρ H w ρ H w where
 le:=PM.le.refl ρ
 grow:=Rl _
 dom:=hd
 rel:=h
 knc:=fun _ _ _ h=>h
 fr:=fun _ _ _=>rfl
 new:=fun b L h1 h2=>by rw [h1] at h2;cases h2
 size:=Rl _
 os:=rfl
 tape:=rfl
 output:=rfl
 old:=fun b L h1 h2=>by rw [h1] at h2;cases h2
 jj:=id
 ro:=fun b L _ _ _ h1 h2=>by rw [h1] at h2;cases h2
theorem Sim.trans{ρ ρ1 ρ2:PM}{H H1 H2:HP}{w w1 w2:World}(hd:Dom ρ H.n)(h:Sim ρ H w ρ1 H1 w1)(h':Sim ρ1 H1 w1 ρ2 H2 w2):Sim ρ H w ρ2 H2 w2:=by
 have key:∀ b L k,H1.Kn b→ρ1 b=some L→k<w.heap.size→(∀ b L,H.Kn b→ρ b=some L→L.B≠k)→L.B≠k:=by
  intro b L k hk hL hlt hno
  cases hb:ρ b with
  | some L0 =>
   have:=h.le b L0 hb
   rw [hL] at this
   cases this
   exact hno b L (h.kn (hd.lt hb) hk) hb
  | none =>
   rcases h.new b L hb hL with h1 | ⟨b0,L0,h1,h2,h3⟩
   ·omega
   ·rw [← h3];exact hno b0 L0 h1 h2
 refine⟨h.le.trans h'.le,Nat.le_trans h.grow h'.grow,h'.dom,h'.rel,fun b i hb hk=>h'.knc b i (Nat.lt_of_lt_of_le hb h.grow) (h.knc b i hb hk),fun k hk hno=>?_,fun b L h1 h2=>?_,
  Nat.le_trans h.size h'.size,h'.os.trans h.os,h'.tape.trans h.tape,h'.output.trans h.output,fun b L h1 h2=>?_,fun hj=>h'.jj (h.jj hj),fun g L M k o h1 h2 h3 h4=>?_⟩
 ·rw [h'.fr k (Nat.lt_of_lt_of_le hk h.size) (fun b L hb hL=>key b L k hb hL hk hno),h.fr k hk hno]
 ·cases hb:ρ1 b with
  | some L1 =>
   have:=h'.le b L1 hb
   rw [h2] at this
   cases this
   exact h.new b L h1 hb
  | none =>
   rcases h'.new b L hb h2 with h3 | ⟨b0,L0,h3,h4,h5⟩
   ·exact .inl (Nat.le_trans h.size h3)
   ·rw [← h5]
    by_cases hlt:w.heap.size≤L0.B
    ·exact .inl hlt
    ·refine .inr ?_
     cases hb0:ρ b0 with
     | some L1 =>
      have:=h.le b0 L1 hb0
      rw [h4] at this
      cases this
      exact⟨b0,L0,h.kn (hd.lt hb0) h3,hb0,rfl⟩
     | none =>
      rcases h.new b0 L0 hb0 h4 with h6 | h6
      ·exact absurd h6 hlt
      ·exact h6
 ·cases hb:ρ1 b with
  | some L1=>exact h.old b L1 h1 hb
  | none=>exact Nat.le_trans h.grow (h'.old b L hb h2)
 ·have orig:∀ b0 L0,H1.Kn b0→ρ1 b0=some L0→w.heap.size≤L0.B∨∃ b1 L1,H.Kn b1∧ρ b1=some L1∧L1.B=L0.B:=by
   intro b0 L0 g1 g2
   cases hb0:ρ b0 with
   | some L1 =>
    have:=h.le b0 L1 hb0
    rw [g2] at this
    cases this
    exact .inr ⟨b0,L0,h.kn (hd.lt hb0) g1,hb0,rfl⟩
   | none=>exact h.new b0 L0 hb0 g2
  cases hb:ρ1 g with
  | some L1 =>
   have:=h'.le g L1 hb
   rw [h2] at this
   cases this
   exact h.ro g L M k o h1 hb h3 h4
  | none =>
   refine⟨?_,(h'.ro g L M k o hb h2 h3 h4).2⟩
   rcases(h'.ro g L M k o hb h2 h3 h4).1 with h5 | ⟨b0,L0,h5,h6,h7⟩
   ·exact .inl (Nat.le_trans h.size h5)
   ·rw [← h7];exact orig b0 L0 h5 h6
theorem J.step{ρ ρ':PM}{H H':HP}{w w':World}(hj:J ρ H w)(s:Sim ρ H w ρ' H' w'):J ρ' H' w':=s.jj hj
theorem J.less{ρ ρ':PM}{H H':HP}{w:World}(h:PM.le ρ ρ')(hk:∀ b L,H.Kn b→ρ b=some L→H'.Kn b)(hj:J ρ' H' w):J ρ H w:=⟨fun x hx=>⟨(hj.1 x hx).1,fun b L' hb hL'=>(hj.1 x hx).2 b L' (hk b L' hb hL') (h b L' hL')⟩,fun g L M hg hM k o ho =>
 ⟨(hj.2 g L M (h g L hg) hM k o ho).1,fun b L' hb hL'=>(hj.2 g L M (h g L hg) hM k o ho).2 b L' (hk b L' hb hL') (h b L' hL')⟩⟩
end Go.Sx
