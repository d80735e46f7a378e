/-
  A symbolic executor: arithmetic, tests, texts on what is known by expressions. Conditions: none; nothing here speaks of one program.
-/
import Derived.Test.YtlbbkmcegbeckaaSvM
set_option linter.unusedSimpArgs false
set_option linter.unusedSectionVars false
set_option linter.unusedVariables false
namespace Go.Sx
variable [Sg]
section
variable {P:Program} [Plain P] {ora:Ora} {E:Operand→Option AV} {H H':HP} {w:World} {ρ:PM} {ev:Operand→Value} {v:AV}
noncomputable def cdg(P:Program)[Plain P](ora:Ora)(E:Operand→Option AV)(H:HP)(c:Call):R :=
 match c.callee with
 | .value f=>c39 ora E H f c.args
 | .builtin b=>match b with
  | .len=>match oLen P E H c.args c.argTypes with
   | some r=>some r
   | none=>cm8 P E H c.args c.argTypes
  | .delete=>cm4 P E H c.args c.argTypes
  | .clear=>cug P E H c.args c.argTypes
  | .cap=>oCap P E H c.args c.argTypes
  | .append=>cht P E H c.args c.argTypes
  | .copy=>c4d P E H c.args c.argTypes
  | .max=>oMax E H false c.args
  | .min=>oMax E H true c.args
  | _=>none
 | _=>none
noncomputable def b4h(P:Program)[Plain P](ora:Ora)(E:Operand→Option AV)(H:HP)(op:Op):R :=
 match op with
 | .move x=>cr5 E H x
 | .assign x=>cr5 E H x
 | .pick c a b=>cwt E H c a b
 | .alloc t=>chs P H t
 | .box _ x=>oBox E H x
 | .build t ps=>cuf P E H t ps
 | .buildSlice t n ps=>b77 P E H t n ps
 | .load t x=>cm9 P E H t x
 | .store t x y=>chu P E H t x y
 | .nilCheck x=>oNil E H x
 | .binOp op t x y _=>oBin P E H op t x y
 | .unOp op _ x=>oUn E H op x
 | .convert t u x=>b9c P E H t u x
 | .makeFunc f xs cs=>b82 E H f xs cs
 | .makeSlice t x y=>b7v P E H t x y
 | .slice t x l h m=>cp6 P E H t x l h m
 | .fieldAddr t x f=>b7t P E H t x f
 | .field t x f=>cki P E H t x f
 | .indexAddr t x i=>b7u P E H t x i
 | .index t x i=>ckj P E H t x i
 | .sliceToArrayPointer t x=>ckg P E H t x
 | .extract x i=>cay E H x i
 | .makeMap _ r=>ccr E H r
 | .lookup t x i ok=>cdq P E H t x i ok
 | .mapUpdate t m k x=>b78 P E H t m k x
 | .insert t m k x=>b78 P E H t m k x
 | .range t x=>ckl P E H t x
 | .entry x=>ckh E H x
 | .mapEntry t m k=>b83 P E H t m k
 | .entryStore _ m s x=>b6u E H m s x
 | .call c=>cdg P ora E H c
 | _=>none
noncomputable def c62(op:Op):(P:Program)→Plain P→Ora→(Operand→Option AV)→HP→R :=
 Op.rec (motive:=fun _=>(P:Program)→Plain P→Ora→(Operand→Option AV)→HP→R)
  (fun x P _ ora E H=>cr5 E H x)
  (fun x P _ ora E H=>cr5 E H x)
  (fun c a b P _ ora E H=>cwt E H c a b)
  (fun t P _ ora E H=>chs P H t)
  (fun t x P _ ora E H=>oBox E H x)
  (fun t ps P _ ora E H=>cuf P E H t ps)
  (fun t n ps P _ ora E H=>b77 P E H t n ps)
  (fun t m k x P _ ora E H=>b78 P E H t m k x)
  (fun t x P _ ora E H=>cm9 P E H t x)
  (fun t x y P _ ora E H=>chu P E H t x y)
  (fun g P _ ora E H=>none)
  (fun g P _ ora E H=>none)
  (fun x P _ ora E H=>oNil E H x)
  (fun o t x y u P _ ora E H=>oBin P E H o t x y)
  (fun o t x P _ ora E H=>oUn E H o x)
  (fun t u x P _ ora E H=>b9c P E H t u x)
  (fun t x P _ ora E H=>ckg P E H t x)
  (fun t x P _ ora E H=>none)
  (fun f xs cs P _ ora E H=>b82 E H f xs cs)
  (fun t r P _ ora E H=>ccr E H r)
  (fun t x P _ ora E H=>none)
  (fun t x y P _ ora E H=>b7v P E H t x y)
  (fun t x l h m P _ ora E H=>cp6 P E H t x l h m)
  (fun t x f P _ ora E H=>b7t P E H t x f)
  (fun t x f P _ ora E H=>cki P E H t x f)
  (fun t x i P _ ora E H=>b7u P E H t x i)
  (fun t x i P _ ora E H=>ckj P E H t x i)
  (fun t x i ok P _ ora E H=>cdq P E H t x i ok)
  (fun t m k x P _ ora E H=>b78 P E H t m k x)
  (fun t m k P _ ora E H=>b83 P E H t m k)
  (fun t m s x P _ ora E H=>b6u E H m s x)
  (fun t x P _ ora E H=>ckl P E H t x)
  (fun x s P _ ora E H=>none)
  (fun x P _ ora E H=>ckh E H x)
  (fun x t u k P _ ora E H=>none)
  (fun x i P _ ora E H=>cay E H x i)
  (fun c P _ ora E H=>cdg P ora E H c)
  (fun c P _ ora E H=>none)
  (fun c P _ ora E H=>none)
  (fun x P _ ora E H=>none)
  (fun c x P _ ora E H=>none)
  (fun t c k P _ ora E H=>none)
  (fun cs b P _ ora E H=>none) op
theorem c1d(P:Program)[I:Plain P](ora:Ora)(E:Operand→Option AV)(H:HP)(op:Op):c62 op P I ora E H=b4h P ora E H op:=by cases op<;>rfl
theorem c5i(ho:cb5 P ora){op:Op}(h:b4h P ora E H op=some (v,H'))(hx:∀ x∈op.operands,∀ a,E x=some a→VRel ρ a (ev x))(hH:HRel ρ H w)(hd:Dom ρ H.n)(hj:J ρ H w) :
  St H H'∧OpS P ρ ev H w op v H':=by
 cases op with
 | move x=>exact⟨(cfy (P:=P) h (fun a=>hx x (by simp [Op.operands]) a) hH hd).1,(cfy (P:=P) h (fun a=>hx x (by simp [Op.operands]) a) hH hd).2.1⟩
 | assign x=>exact⟨(cfy (P:=P) h (fun a=>hx x (by simp [Op.operands]) a) hH hd).1,(cfy (P:=P) h (fun a=>hx x (by simp [Op.operands]) a) hH hd).2.2⟩
 | pick c a b=>exact c4k h (fun z hz=>hx z (by rcases hz with rfl | rfl | rfl<;>simp [Op.operands])) hH hd
 | alloc t=>exact czj h hH hd
 | box t x=>exact c8i h (hx x (by simp [Op.operands])) hH hd
 | build t ps=>exact czm h (fun p hp=>hx p.2 (by simp only [Op.operands,List.mem_toArray,List.mem_map];exact⟨p,hp,rfl⟩)) hH hd
 | buildSlice t n ps=>exact cjk h (fun p hp=>hx p.2 (by simp only [Op.operands,List.mem_toArray,List.mem_map];exact⟨p,hp,rfl⟩)) hH hd
 | load t x=>exact c4j h (hx x (by simp [Op.operands])) hH hd
 | store t x y=>exact czz h (fun z hz=>hx z (by rcases hz with rfl | rfl<;>simp [Op.operands])) hH hd
 | nilCheck x=>exact c8n h (hx x (by simp [Op.operands])) hH hd
 | binOp op t x y ty=>exact czl h (fun z hz=>hx z (by rcases hz with rfl | rfl<;>simp [Op.operands])) hH hd
 | unOp op t x=>exact cz0 h (hx x (by simp [Op.operands])) hH hd
 | convert t u x=>exact cr1 h (hx x (by simp [Op.operands])) hH hd
 | makeFunc f xs cs=>exact cp0 h (fun z hz=>hx z (by simp only [Op.operands,Array.mem_append];right;simpa using hz)) hH hd
 | makeSlice t x y=>exact cna h (fun z hz=>hx z (by rcases hz with rfl | rfl<;>simp [Op.operands])) hH hd
 | slice t x l hh m=>exact czy h (fun z hz=>hx z (by rcases hz with rfl | hz | hz | hz<;>simp [Op.operands, *])) hH hd
 | fieldAddr t x f=>exact cm6 h (hx x (by simp [Op.operands])) hH hd
 | field t x f=>exact czs h (hx x (by simp [Op.operands])) hH hd
 | indexAddr t x i=>exact cm7 h (fun z hz=>hx z (by rcases hz with rfl | rfl<;>simp [Op.operands])) hH hd
 | sliceToArrayPointer t x=>exact czk h (hx x (by simp [Op.operands])) hH hd
 | index t x i=>exact czt h (fun z hz=>hx z (by rcases hz with rfl | rfl<;>simp [Op.operands])) hH hd
 | extract x i=>exact cr2 h (hx x (by simp [Op.operands])) hH hd
 | makeMap t r=>exact cr3 (E:=E) h hH hd
 | lookup t x i ok=>exact cws h (fun z hz=>hx z (by rcases hz with rfl | rfl<;>simp [Op.operands])) hH hd
 | mapUpdate t m k x=>exact(ckk h (fun z hz=>hx z (by rcases hz with rfl | rfl | rfl<;>simp [Op.operands])) hH hd).imp_right And.left
 | insert t m k x=>exact(ckk h (fun z hz=>hx z (by rcases hz with rfl | rfl | rfl<;>simp [Op.operands])) hH hd).imp_right And.right
 | range t x=>exact czx h (hx x (by simp [Op.operands])) hH hd
 | entry x=>exact czr h (hx x (by simp [Op.operands])) hH hd
 | mapEntry t m k=>exact cp1 h (fun z hz=>hx z (by rcases hz with rfl | rfl<;>simp [Op.operands])) hH hd
 | entryStore t m s x=>exact cjl h (fun z hz=>hx z (by rcases hz with rfl | rfl | rfl<;>simp [Op.operands])) hH hd
 | call c =>
  obtain⟨callee,args,ats⟩:=c
  cases callee with
  | value f=>exact c4a ho h (fun z hz=>hx z (by simp only [Op.operands,Call.operands,Array.mem_append];rcases hz with rfl | hz<;>simp_all)) hH hd hj
  | invoke r m=>cases h
  | builtin b =>
   have hx':∀ z∈args.toList,∀ a,E z=some a→VRel ρ a (ev z):=fun z hz=>hx z (by simp only [Op.operands,Call.operands,Array.mem_append];right;simpa using hz)
   cases b with
   | len =>
    simp only [b4h,cdg] at h
    split at h
    ·rename_i r hr
     cases h
     exact c8k hr hx' hH hd
    ·exact cwr h hx' hH hd
   | delete=>exact cwp h hx' hH hd
   | clear=>exact czq h hx' hH hd
   | cap=>exact c8j h hx' hH hd
   | append=>exact cwn h hx' hH hd
   | copy=>exact c4e h hx' hH hd
   | max=>exact c8l h hx' hH hd
   | min=>exact c8m h hx' hH hd
   | _=>cases h
 | _=>cases h
def isPure:Op→Bool
 | .move _=>true
 | .assign _=>true
 | .pick _ _ _=>true
 | .build _ _=>true
 | .nilCheck _=>true
 | .binOp _ _ _ _ _=>true
 | .unOp _ _ _=>true
 | .makeFunc _ _ _=>true
 | .slice _ _ _ _ _=>true
 | .fieldAddr _ _ _=>true
 | .field _ _ _=>true
 | .indexAddr _ _ _=>true
 | .index _ _ _=>true
 | .sliceToArrayPointer _ _=>true
 | .extract _ _=>true
 | _=>false
theorem cng{α:Type}{x:Option α}{f:α→AV}(h:x.map (fun a=>(f a,H))=some (v,H')):H'=H∧∀ G:HP,x.map (fun a=>(f a,G))=some (v,G):=by
 obtain⟨a,rfl,hv⟩:=map_some h
 cases hv
 exact⟨rfl,fun _=>rfl⟩
theorem clr{op:Op}(hp:isPure op=true)(h:b4h P ora E H op=some (v,H')):H'=H∧∀ G:HP,b4h P ora E G op=some (v,G):=by
  cases op with
  | move x=>exact cng h
  | assign x=>exact cng h
  | pick c a b =>
    simp only [b4h,cwt] at h ⊢
    repeat' (split at h)
    all_goals first
     | (cases h;done)
     | (cases h;exact⟨rfl,fun G=>by simp [*]⟩)
     | (obtain⟨a,ha,hv⟩:=map_some h;cases hv;exact⟨rfl,fun G=>by simp [*]⟩)
  | build t ps=>exact cng h
  | nilCheck x =>
    simp only [b4h,oNil] at h ⊢
    repeat' (split at h)
    all_goals first
     | (cases h;done)
     | (cases h;exact⟨rfl,fun G=>by simp [*]⟩)
     | (obtain⟨a,ha,hv⟩:=map_some h;cases hv;exact⟨rfl,fun G=>by simp [*]⟩)
  | binOp op t x y ty =>
    simp only [b4h,oBin] at h ⊢
    repeat' (split at h)
    all_goals first
     | (cases h;done)
     | (cases h;exact⟨rfl,fun G=>by simp [*]⟩)
     | (obtain⟨a,ha,hv⟩:=map_some h;cases hv;exact⟨rfl,fun G=>by simp [*]⟩)
  | unOp op t x =>
    simp only [b4h,oUn] at h ⊢
    repeat' (split at h)
    all_goals first
     | (cases h;done)
     | (cases h;exact⟨rfl,fun G=>by simp [*]⟩)
     | (obtain⟨a,ha,hv⟩:=map_some h;cases hv;exact⟨rfl,fun G=>by simp [*]⟩)
  | makeFunc f xs cs =>
    simp only [b4h,b82] at h ⊢
    repeat' (split at h)
    all_goals first
     | (cases h;done)
     | (cases h;exact⟨rfl,fun G=>by simp [*]⟩)
     | (obtain⟨a,ha,hv⟩:=map_some h;cases hv;exact⟨rfl,fun G=>by simp [*]⟩)
  | slice t x l hh m =>
    simp only [b4h,cp6] at h ⊢
    repeat' (split at h)
    all_goals first
     | (cases h;done)
     | (cases h;exact⟨rfl,fun G=>by simp [*]⟩)
     | (obtain⟨a,ha,hv⟩:=map_some h;cases hv;exact⟨rfl,fun G=>by simp [*]⟩)
  | fieldAddr t x f =>
    simp only [b4h,b7t] at h ⊢
    repeat' (split at h)
    all_goals first
     | (cases h;done)
     | (cases h;exact⟨rfl,fun G=>by simp [*]⟩)
     | (obtain⟨a,ha,hv⟩:=map_some h;cases hv;exact⟨rfl,fun G=>by simp [*]⟩)
  | field t x f =>
    simp only [b4h,cki] at h ⊢
    repeat' (split at h)
    all_goals first
     | (cases h;done)
     | (cases h;exact⟨rfl,fun G=>by simp [*]⟩)
     | (obtain⟨a,ha,hv⟩:=map_some h;cases hv;exact⟨rfl,fun G=>by simp [*]⟩)
  | indexAddr t x i =>
    simp only [b4h,b7u] at h ⊢
    repeat' (split at h)
    all_goals first
     | (cases h;done)
     | (cases h;exact⟨rfl,fun G=>by simp [*]⟩)
     | (obtain⟨a,ha,hv⟩:=map_some h;cases hv;exact⟨rfl,fun G=>by simp [*]⟩)
  | index t x i =>
    simp only [b4h,ckj] at h ⊢
    repeat' (split at h)
    all_goals first
     | (cases h;done)
     | (cases h;exact⟨rfl,fun G=>by simp [*]⟩)
     | (obtain⟨a,ha,hv⟩:=map_some h;cases hv;exact⟨rfl,fun G=>by simp [*]⟩)
  | sliceToArrayPointer t x =>
    simp only [b4h,ckg] at h ⊢
    repeat' (split at h)
    all_goals first
     | (cases h;done)
     | (cases h;exact⟨rfl,fun G=>by simp [*]⟩)
     | (obtain⟨a,ha,hv⟩:=map_some h;cases hv;exact⟨rfl,fun G=>by simp [*]⟩)
  | extract x i =>
    simp only [b4h,cay] at h ⊢
    repeat' (split at h)
    all_goals first
     | (cases h;done)
     | (cases h;exact⟨rfl,fun G=>by simp [*]⟩)
     | (obtain⟨a,ha,hv⟩:=map_some h;cases hv;exact⟨rfl,fun G=>by simp [*]⟩)
  | _=>cases hp
end
end Go.Sx

namespace Go.Sx
noncomputable section
def iX:Cel→Option (IntKind×X)
 | .lit (.int k z)=>some (k,.lit (.int k z))
 | .sv (.int k) _ e=>some (k,e)
 | _=>none
def bX:Cel→Option X
 | .lit (.bool b)=>some (.lit (.bool b))
 | .sv .bool _ e=>some e
 | _=>none
def sX:Cel→Option X
 | .lit (.string s)=>some (.lit (.string s))
 | .sv .str _ e=>some e
 | _=>none
def svI(k:IntKind)(e:X):Cel:=.sv (.int k) [] e
def svB(e:X):Cel:=.sv .bool [] e
def svS(e:X):Cel:=.sv .str [] e
def oneC(v:Option AV):Option Cel :=
 match v with
 | some (.one c)=>some c
 | _=>none
def cj0(hy:List X)(k:IntKind)(e:X):X :=
 match leX hy (.lit (.int k k.min)) e,leX hy e (.lit (.int k k.max)) with
 | true,true=>e
 | _,_=>.ap (.wr k) [e]
def nzX(hy:List X)(e:X):Bool:=ltX hy (.lit (.int .i64 0)) e||ltX hy e (.lit (.int .i64 0))
def notE(e:X):X:=.ap .not [e]
def intY(hy:List X)(op:BinOp)(k:IntKind)(e e':X):Option Cel :=
 match op with
 | .add=>some (svI k (cj0 hy k (.ap (.add k) [e,e'])))
 | .sub=>some (svI k (cj0 hy k (.ap (.sub k) [e,e'])))
 | .mul=>some (svI k (cj0 hy k (.ap (.mul k) [e,e'])))
 | .quo=>match nzX hy e' with
  | true=>some (svI k (.ap (.bin .quo k) [e,e']))
  | false=>none
 | .rem=>match nzX hy e' with
  | true=>some (svI k (.ap (.bin .rem k) [e,e']))
  | false=>none
 | .and=>some (svI k (.ap (.bin .and k) [e,e']))
 | .or=>some (svI k (.ap (.bin .or k) [e,e']))
 | .xor=>some (svI k (.ap (.bin .xor k) [e,e']))
 | .andNot=>some (svI k (.ap (.bin .andNot k) [e,e']))
 | .eql=>some (svB (.ap .eq [e,e']))
 | .neq=>some (svB (notE (.ap .eq [e,e'])))
 | .lss=>some (svB (.ap .lt [e,e']))
 | .leq=>some (svB (.ap .le [e,e']))
 | .gtr=>some (svB (.ap .lt [e',e]))
 | .geq=>some (svB (.ap .le [e',e]))
 | _=>none
def shfY(hy:List X)(op:BinOp)(k:IntKind)(e e':X):Option Cel :=
 match op,leX hy (.lit (.int .i64 0)) e' with
 | .shl,true=>some (svI k (.ap (.shf .shl k) [e,e']))
 | .shr,true=>some (svI k (.ap (.shf .shr k) [e,e']))
 | _,_=>none
def dd5:BinOp→Bool
 | .shl=>true
 | .shr=>true
 | _=>false
def strY(hy:List X)(op:BinOp)(e e':X):Option Cel :=
 match op with
 | .add=>match leX hy (.ap (.add .i64) [.ap .slen [e],.ap .slen [e']]) (.lit (.int .i64 9223372036854775806)) with
  | true=>some (svS (.ap (.sbin .add) [e,e']))
  | false=>none
 | .eql=>some (svB (.ap .eq [e,e']))
 | .neq=>some (svB (notE (.ap .eq [e,e'])))
 | .lss=>some (svB (.ap (.sbin .lss) [e,e']))
 | .leq=>some (svB (.ap (.sbin .leq) [e,e']))
 | .gtr=>some (svB (.ap (.sbin .lss) [e',e]))
 | .geq=>some (svB (.ap (.sbin .leq) [e',e]))
 | _=>none
def andE(a b:X):X:=.ap .and [a,b]
def ddp:X:=.lit (.bool true)
def eqFX(eq:TypeId→List Cel→List Cel→Option X)(sz:TypeId→Option (Bool×Nat))(xs ys:List Cel):List Field→Option X
 | []=>some ddp
 | f::fs =>
  match sz f.type with
  | none=>none
  | some (ag,n) =>
   if f.offset+(wid ag n)≤xs.length∧f.offset+(wid ag n)≤ys.length then
    match eq f.type (cut xs f.offset (wid ag n)) (cut ys f.offset (wid ag n)),eqFX eq sz xs ys fs with
    | some r,some rs=>some (andE r rs)
    | _,_=>none
   else none
def eqEX(eq:List Cel→List Cel→Option X)(c:Nat):Nat→List Cel→List Cel→Option X
 | 0,_,_=>some ddp
 | n+1,xs,ys=>match eq (takeN c xs) (takeN c ys),eqEX eq c n (b8x c xs) (b8x c ys) with
  | some r,some rs=>some (andE r rs)
  | _,_=>none
def eqTX(P:Program)[Plain P]:Nat→TypeId→List Cel→List Cel→Option X
 | 0,_,_,_=>none
 | d+1,t,xs,ys =>
  match undT P t with
  | some (.int _)=>match xs,ys with
   | [x],[y]=>match iX x,iX y with
    | some (k,e),some (k',e')=>if k=k' then some (.ap .eq [e,e']) else none
    | _,_=>none
   | _,_=>none
  | some .bool=>match xs,ys with
   | [x],[y]=>match bX x,bX y with
    | some e,some e'=>some (.ap .eq [e,e'])
    | _,_=>none
   | _,_=>none
  | some .string=>match xs,ys with
   | [x],[y]=>match sX x,sX y with
    | some e,some e'=>some (.ap .eq [e,e'])
    | _,_=>none
   | _,_=>none
  | some (.struct fs)=>if Plain.plain P t then eqFX (eqTX P d) (szA P) xs ys fs.toList else none
  | some (.array n e)=>match szA P e with
   | some (ag,c)=>if wid ag c=c∧n*c≤xs.length∧n*c≤ys.length then eqEX (eqTX P d e) c n xs ys else none
   | none=>none
  | _=>none
def binY(P:Program)[Plain P](hy:List X)(op:BinOp)(t:TypeId)(a b:AV):Option Cel :=
 match a,b with
 | .one x,.one y=>match iX x,iX y with
  | some (k,e),some (k',e')=>match dd5 op with
   | true=>shfY hy op k e e'
   | false=>if k=k' then intY hy op k e e' else none
  | _,_=>match sX x,sX y with
   | some e,some e'=>strY hy op e e'
   | _,_=>match undT P t,bX x,bX y with
    | some .bool,some e,some e'=>match op with
     | .eql=>some (svB (.ap .eq [e,e']))
     | .neq=>some (svB (notE (.ap .eq [e,e'])))
     | _=>none
    | _,_,_=>none
 | .agg xs,.agg ys=>match szA P t with
  | some (true,_)=>if Plain.plain P t then
    match op,eqTX P 8 t xs ys with
    | .eql,some e=>some (svB e)
    | .neq,some e=>some (svB (notE e))
    | _,_=>none
   else none
  | _=>none
 | _,_=>none
def unY(hy:List X)(op:UnOp)(x:Cel):Option Cel :=
 match op with
 | .not=>match bX x with
  | some e=>some (svB (notE e))
  | none=>none
 | .neg=>match iX x with
  | some (k,e)=>some (svI k (.ap (.neg k) [e]))
  | none=>none
 | _=>none
section
variable (P:Program) [Plain P] (E:Operand→Option AV) (H:HP)
def yBin(op:BinOp)(t:TypeId)(x y:Operand):R :=
 match E x,E y with
 | some a,some b=>(binY P H.hy op t a b).map fun c=>(.one c,H)
 | _,_=>none
def yUn(op:UnOp)(x:Operand):R :=
 match E x with
 | some (.one c)=>(unY H.hy op c).map fun c=>(.one c,H)
 | _=>none
def c2h(c a b:Operand):R :=
 match E c with
 | some (.one (.sv .bool _ e))=>match known H.hy e with
  | some t=>(if t then E a else E b).map fun v=>(v,H)
  | none=>none
 | _=>none
end
end
section
variable [Sg] {P:Program} [Plain P] {E:Operand→Option AV} {H H':HP} {w:World} {ρ:PM} {ev:Operand→Value} {v:AV}
noncomputable def litV:Cel→Cel
 | .sv (.int k) _ e=>.lit (.int k (den e).iv)
 | .sv .bool _ e=>.lit (.bool (den e).bv)
 | .sv .str _ e=>.lit (.string (den e).str)
 | c=>c
theorem ct6{c:Cel}{u:Value}(h:CRel ρ c u):CRel ρ (litV c) u:=by
 unfold litV
 split
 ·obtain⟨_,n,h1,h2,h3⟩:=h
  rw [h1]
  exact⟨h2,h3⟩
 ·obtain⟨_,b,h1,h2⟩:=h
  rw [h1]
  exact⟨h2,rfl⟩
 ·obtain⟨_,s,h1,h2,h3⟩:=h
  rw [h1]
  exact⟨h2,by simp only [b4k,decide_eq_true_eq];exact h3⟩
 ·exact h
noncomputable def litA:AV→AV
 | .one c=>.one (litV c)
 | .agg xs=>.agg (xs.map litV)
 | .tup vs=>.tup vs
theorem cpk:∀ {xs:List Cel} {us:List Value},All2 (CRel ρ) xs us→All2 (CRel ρ) (xs.map litV) us
 | [],[],_=>trivial
 | _::_,_::_,⟨h1,h2⟩=>⟨ct6 h1,cpk h2⟩
 | [],_::_,h=>h.elim
 | _::_,[],h=>h.elim
theorem c3w{a:AV}{u:Value}(h:VRel ρ a u):VRel ρ (litA a) u:=by
 cases a with
 | one c=>exact ct6 (ρ:=ρ) h
 | agg xs=>obtain⟨us,h1,h2⟩:=h;exact⟨us,h1,cpk h2⟩
 | tup vs=>exact h
theorem b7f{c:Cel}{k:IntKind}{e:X}{u:Value}(h:iX c=some (k,e))(hr:CRel ρ c u):litV c=.lit (.int k (den e).iv)∧den e=.v (.int k (den e).iv)∧u=.int k (den e).iv∧b4k (.int k (den e).iv)=true:=by
 unfold iX at h
 split at h
 ·cases h
  exact⟨rfl,rfl,hr.1,hr.2⟩
 ·cases h
  obtain⟨_,n,h1,h2,h3⟩:=hr
  refine⟨rfl,?_,?_,?_⟩
  ·rw [h1];rfl
  ·rw [h1];exact h2
  ·rw [h1];exact h3
 ·cases h
theorem cgf{c:Cel}{e:X}{u:Value}(h:bX c=some e)(hr:CRel ρ c u):litV c=.lit (.bool (den e).bv)∧den e=.v (.bool (den e).bv)∧u=.bool (den e).bv:=by
 unfold bX at h
 split at h
 ·cases h
  exact⟨rfl,rfl,hr.1⟩
 ·cases h
  obtain⟨_,n,h1,h2⟩:=hr
  refine⟨rfl,?_,?_⟩
  ·rw [h1];rfl
  ·rw [h1];exact h2
 ·cases h
theorem cel{c:Cel}{e:X}{u:Value}(h:sX c=some e)(hr:CRel ρ c u):litV c=.lit (.string (den e).str)∧den e=.v (.string (den e).str)∧u=.string (den e).str∧(den e).str.size≤maxN:=by
 unfold sX at h
 split at h
 ·cases h
  refine⟨rfl,rfl,hr.1,?_⟩
  have:=hr.2
  simp only [b4k,decide_eq_true_eq] at this
  exact this
 ·cases h
  obtain⟨_,n,h1,h2,h3⟩:=hr
  refine⟨rfl,?_,?_,?_⟩
  ·rw [h1];rfl
  ·rw [h1];exact h2
  ·rw [h1];exact h3
 ·cases h
theorem dae{k:IntKind}{n:Int}(h1:k.min≤n)(h2:n≤k.max):k.wrap n=n:=by
 unfold IntKind.wrap
 cases k<;>simp only [IntKind.signed,IntKind.bits,IntKind.min,IntKind.max] at *<;>simp at *<;>(try split)<;>omega
theorem cav{hy:List X}(hh:Holds hy){k:IntKind}{e:X}(he:den e=.v (.int k (den e).iv)):den (cj0 hy k e)=.v (.int k (k.wrap (den e).iv)):=by
 unfold cj0
 split
 ·rename_i h1 h2
  have g1:k.min≤(den e).iv:=b5r hh h1
  have g2:(den e).iv≤k.max:=b5r hh h2
  rw [dae g1 g2]
  exact he
 ·rfl
theorem b5m{k:IntKind}{e:X}{n:Int}(h:den e=.v (.int k n))(ho:b4k (.int k n)=true):CRel ρ (svI k e) (.int k n):=⟨fun g hg=>(by cases hg),n,h,rfl,ho⟩
theorem b5l{e:X}{b:Bool}(h:den e=.v (.bool b)):CRel ρ (svB e) (.bool b):=⟨fun g hg=>(by cases hg),b,h,rfl⟩
theorem csx{e:X}{s:ByteArray}(h:den e=.v (.string s))(ho:b4k (.string s)=true):CRel ρ (svS e) (.string s):=⟨fun g hg=>(by cases hg),s,h,rfl,by simp only [b4k,decide_eq_true_eq] at ho;exact ho⟩
theorem c6s{hy:List X}(hh:Holds hy){e:X}(h:nzX hy e=true):(den e).iv≠0:=by
 unfold nzX at h
 rw [Bool.or_eq_true] at h
 rcases h with h | h
 ·have:(0:Int)<(den e).iv:=b76 hh h
  omega
 ·have:(den e).iv<(0:Int):=b76 hh h
  omega
def Same(ρ:PM)(c:Cel)(r:Value):Prop:=b4k r=true→CRel ρ c r
theorem cyy{hy:List X}(hh:Holds hy){op:BinOp}{k:IntKind}{e e':X}{c:Cel}{a b:Int}(h:intY hy op k e e'=some c)(he:den e=.v (.int k a))(he':den e'=.v (.int k b)):∃ r,b8u op k a b=some r∧Same ρ c r:=by
 have e1:(den e).iv=a:=by rw [he];rfl
 have e2:(den e').iv=b:=by rw [he'];rfl
 have eqd:den (.ap .eq [e,e'])=.v (.bool (decide (a=b))):=by
  show b34 (eqC (den e) (den e'))=_
  rw [he,he']
  rfl
 cases op<;>simp only [intY] at h
 case add =>
  cases h
  refine⟨_,rfl,fun ho=>b5m ?_ ho⟩
  rw [cav hh rfl]
  show CD.v (.int k (k.wrap ((den e).iv+(den e').iv)))=_
  rw [e1,e2]
 case sub =>
  cases h
  refine⟨_,rfl,fun ho=>b5m ?_ ho⟩
  rw [cav hh rfl]
  show CD.v (.int k (k.wrap ((den e).iv - (den e').iv)))=_
  rw [e1,e2]
 case mul =>
  cases h
  refine⟨_,rfl,fun ho=>b5m ?_ ho⟩
  rw [cav hh rfl]
  show CD.v (.int k (k.wrap ((den e).iv*(den e').iv)))=_
  rw [e1,e2]
 case quo =>
  split at h
  ·rename_i hz
   cases h
   have hb:b≠0:=by rw [← e2];exact c6s hh hz
   refine⟨.int k (k.wrap (a.tdiv b)),if_neg hb,fun ho=>b5m ?_ ho⟩
   show orV (b8u .quo k (den e).iv (den e').iv)=_
   rw [e1,e2,show b8u .quo k a b=some (.int k (k.wrap (a.tdiv b))) from if_neg hb]
   rfl
  ·cases h
 case rem =>
  split at h
  ·rename_i hz
   cases h
   have hb:b≠0:=by rw [← e2];exact c6s hh hz
   refine⟨.int k (a.tmod b),if_neg hb,fun ho=>b5m ?_ ho⟩
   show orV (b8u .rem k (den e).iv (den e').iv)=_
   rw [e1,e2,show b8u .rem k a b=some (.int k (a.tmod b)) from if_neg hb]
   rfl
  ·cases h
 case and=>cases h;exact⟨_,rfl,fun ho=>b5m (by show orV (b8u .and k (den e).iv (den e').iv)=_;rw [e1,e2];rfl) ho⟩
 case or=>cases h;exact⟨_,rfl,fun ho=>b5m (by show orV (b8u .or k (den e).iv (den e').iv)=_;rw [e1,e2];rfl) ho⟩
 case xor=>cases h;exact⟨_,rfl,fun ho=>b5m (by show orV (b8u .xor k (den e).iv (den e').iv)=_;rw [e1,e2];rfl) ho⟩
 case andNot=>cases h;exact⟨_,rfl,fun ho=>b5m (by show orV (b8u .andNot k (den e).iv (den e').iv)=_;rw [e1,e2];rfl) ho⟩
 case eql =>
  cases h
  refine⟨_,rfl,fun _=>b5l ?_⟩
  rw [eqd]
  rfl
 case neq =>
  cases h
  refine⟨_,rfl,fun _=>b5l ?_⟩
  show b34 (!(den (.ap .eq [e,e'])).bv)=_
  rw [eqd]
  show b34 (!decide (a=b))=.v (.bool (a != b))
  by_cases hab:a=b
  ·subst hab;simp [b34]
  ·simp [b34,hab]
 case lss=>cases h;exact⟨_,rfl,fun _=>b5l (by show b34 (decide ((den e).iv<(den e').iv))=_;rw [e1,e2];rfl)⟩
 case leq=>cases h;exact⟨_,rfl,fun _=>b5l (by show b34 (decide ((den e).iv≤(den e').iv))=_;rw [e1,e2];rfl)⟩
 case gtr=>cases h;exact⟨_,rfl,fun _=>b5l (by show b34 (decide ((den e').iv<(den e).iv))=_;rw [e1,e2];rfl)⟩
 case geq=>cases h;exact⟨_,rfl,fun _=>b5l (by show b34 (decide ((den e').iv≤(den e).iv))=_;rw [e1,e2];rfl)⟩
 all_goals cases h
theorem b9i:∀ (a:List UInt8),Op.bytesLess a a=false
 | []=>rfl
 | x::r=>by
  show(decide (x<x)||(x==x&&Op.bytesLess r r))=false
  rw [b9i r]
  simp [UInt8.lt_irrefl]
theorem b8l:∀ (a b:List UInt8),Op.bytesLess b a = !(Op.bytesLess a b||a==b)
 | [],[]=>rfl
 | [],y::s=>rfl
 | x::r,[]=>rfl
 | x::r,y::s=>by
  have ih:=b8l r s
  show(decide (y<x)||(y==x&&Op.bytesLess s r)) = !((decide (x<y)||(x==y&&Op.bytesLess r s))||((x::r)==(y::s)))
  rw [ih]
  rcases Nat.lt_trichotomy x.toNat y.toNat with h | h | h
  ·have h1:x<y:=h
   have h2:¬ y<x:=fun h'=>by have:y.toNat<x.toNat:=h';omega
   have h3:¬ y=x:=fun h'=>by rw [h'] at h;omega
   simp [h1,h2,h3]
  ·have h1:x=y:=UInt8.toNat_inj.1 h
   subst h1
   simp [UInt8.lt_irrefl]
  ·have h1:y<x:=h
   have h2:¬ x<y:=fun h'=>by have:x.toNat<y.toNat:=h';omega
   have h3:¬ x=y:=fun h'=>by rw [h'] at h;omega
   simp [h1,h2,h3]
theorem c07{hy:List X}(hh:Holds hy){op:BinOp}{k:IntKind}{e e':X}{c:Cel}{a b:Int}(h:shfY hy op k e e'=some c)(e1:(den e).iv=a)(e2:(den e').iv=b):∃ r,cfj op k a b=some r∧Same ρ c r:=by
 unfold shfY at h
 split at h
 ·rename_i hb
  cases h
  have hb:(0:Int)≤b:=by rw [← e2];exact b5r hh hb
  refine⟨.int k (k.wrap (a*2 ^ (min b.toNat k.bits))),if_pos hb,fun ho=>b5m ?_ ho⟩
  show orV (cfj .shl k (den e).iv (den e').iv)=_
  rw [e1,e2,show cfj .shl k a b=some (.int k (k.wrap (a*2 ^ (min b.toNat k.bits)))) from if_pos hb]
  rfl
 ·rename_i hb
  cases h
  have hb:(0:Int)≤b:=by rw [← e2];exact b5r hh hb
  refine⟨.int k (a.fdiv (2 ^ (min b.toNat k.bits))),if_pos hb,fun ho=>b5m ?_ ho⟩
  show orV (cfj .shr k (den e).iv (den e').iv)=_
  rw [e1,e2,show cfj .shr k a b=some (.int k (a.fdiv (2 ^ (min b.toNat k.bits)))) from if_pos hb]
  rfl
 ·cases h
theorem c1l{hy:List X}(hh:Holds hy){op:BinOp}{e e':X}{c:Cel}{a b:ByteArray}(h:strY hy op e e'=some c)(he:den e=.v (.string a))(he':den e'=.v (.string b))(ha:a.size≤maxN)(hb:b.size≤maxN):∃ r,strA op a b=some r∧Same ρ c r:=by
 have e1:(den e).str=a:=by rw [he];rfl
 have e2:(den e').str=b:=by rw [he'];rfl
 have eqd:den (.ap .eq [e,e'])=.v (.bool (a.toList==b.toList)):=by
  show b34 (eqC (den e) (den e'))=_
  rw [he,he']
  rfl
 cases op<;>simp only [strY] at h
 case add =>
  split at h
  ·rename_i hl
   cases h
   have hl:((den e).slen:Int)+((den e').slen:Int)≤9223372036854775806:=b5r hh hl
   have l1:(den e).slen=a.size:=by rw [he];exact cbk ha
   have l2:(den e').slen=b.size:=by rw [he'];exact cbk hb
   rw [l1,l2] at hl
   have hle:a.size+b.size≤9223372036854775807:=by omega
   refine⟨.string (a++b),if_pos hle,fun ho=>csx ?_ ho⟩
   show orV (strA .add (den e).str (den e').str)=_
   rw [e1,e2,show strA .add a b=some (.string (a++b)) from if_pos hle]
   rfl
  ·cases h
 case eql=>cases h;exact⟨_,rfl,fun _=>b5l eqd⟩
 case neq =>
  cases h
  refine⟨_,rfl,fun _=>b5l ?_⟩
  show b34 (!(den (.ap .eq [e,e'])).bv)=_
  rw [eqd]
  rfl
 case lss=>cases h;exact⟨_,rfl,fun _=>b5l (by show orV (strA .lss (den e).str (den e').str)=_;rw [e1,e2];rfl)⟩
 case leq=>cases h;exact⟨_,rfl,fun _=>b5l (by show orV (strA .leq (den e).str (den e').str)=_;rw [e1,e2];rfl)⟩
 case gtr =>
  cases h
  refine⟨_,rfl,fun _=>b5l ?_⟩
  show orV (strA .lss (den e').str (den e).str)=_
  rw [e1,e2]
  show CD.v (.bool (Op.bytesLess b.toList a.toList))=CD.v (.bool !(Op.bytesLess a.toList b.toList||a.toList==b.toList))
  rw [b8l]
 case geq =>
  cases h
  refine⟨_,rfl,fun _=>b5l ?_⟩
  show orV (strA .leq (den e').str (den e).str)=_
  rw [e1,e2]
  show CD.v (.bool (Op.bytesLess b.toList a.toList||b.toList==a.toList))=CD.v (.bool !(Op.bytesLess a.toList b.toList))
  rw [b8l b.toList a.toList]
  have:(b.toList==a.toList)=(a.toList==b.toList):=by rw [Bool.eq_iff_iff,beq_iff_eq,beq_iff_eq];exact eq_comm
  rw [this]
  by_cases hab:a.toList=b.toList
  ·rw [hab,b9i,beq_self_eq_true]
   rfl
  ·have hf:(a.toList==b.toList)=false:=by rw [beq_eq_false_iff_ne];exact hab
   simp only [hf,Bool.or_false,Bool.not_not]
 all_goals cases h
theorem cyh{d:Nat}(ih:∀ (t:TypeId) (xs ys:List Cel) (us vs:List Value) (e:X),eqTX P d t xs ys=some e→All2 (CRel ρ) xs us→All2 (CRel ρ) ys vs→den e=.v (.bool (den e).bv)∧eqT P d t (xs.map litV) (ys.map litV)=some (den e).bv){xs ys:List Cel}{us vs:List Value}(hx:All2 (CRel ρ) xs us)(hy:All2 (CRel ρ) ys vs) :
  ∀ (fs:List Field) (e:X),eqFX (eqTX P d) (szA P) xs ys fs=some e→den e=.v (.bool (den e).bv)∧eqFs (eqT P d) (szA P) (xs.map litV) (ys.map litV) fs=some (den e).bv
 | [],e,h=>by cases h;exact⟨rfl,rfl⟩
 | f::fs,e,h=>by
  simp only [eqFX,eqFs] at h ⊢
  split at h
  ·cases h
  ·rename_i ag n hs
   split at h
   ·rename_i hle
    split at h
    ·rename_i r rs hr hrs
     cases h
     obtain⟨k1,k2⟩:=ih f.type _ _ _ _ r hr (hx.cut _ _) (hy.cut _ _)
     obtain⟨k3,k4⟩:=cyh ih hx hy fs rs hrs
     have hm:∀ zs:List Cel,cut (zs.map litV) f.offset (wid ag n)=(cut zs f.offset (wid ag n)).map litV:=fun zs=>by
      unfold cut
      rw [List.map_take,List.map_drop]
     refine⟨rfl,?_⟩
     rw [hs]
     simp only [List.length_map]
     rw [if_pos hle,hm,hm,k2,k4]
     rfl
    ·cases h
   ·cases h
theorem cyf{eq:List Cel→List Cel→Option X}{eq':List Cel→List Cel→Option Bool}{c:Nat}(ih:∀ (xs ys:List Cel) (us vs:List Value) (e:X),eq xs ys=some e→All2 (CRel ρ) xs us→All2 (CRel ρ) ys vs→eq' (xs.map litV) (ys.map litV)=some (den e).bv) :
  ∀ (n:Nat) {xs ys:List Cel} {us vs:List Value} (e:X),All2 (CRel ρ) xs us→All2 (CRel ρ) ys vs→eqEX eq c n xs ys=some e→den e=.v (.bool (den e).bv)∧eqEs eq' c n (xs.map litV) (ys.map litV)=some (den e).bv
 | 0,xs,ys,us,vs,e,_,_,h=>by cases h;exact⟨rfl,rfl⟩
 | n+1,xs,ys,us,vs,e,hx,hy,h=>by
  simp only [eqEX,eqEs] at h ⊢
  split at h
  ·rename_i r rs hr hrs
   cases h
   rw [b65,b65] at hr
   rw [b58,b58] at hrs
   have k2:=ih _ _ _ _ r hr (hx.take c) (hy.take c)
   obtain⟨_,k4⟩:=cyf ih n rs (hx.drop c) (hy.drop c) hrs
   refine⟨rfl,?_⟩
   rw [b65,b65,b58,b58,← List.map_take,← List.map_take,← List.map_drop,← List.map_drop,k2,k4]
   rfl
  ·cases h
theorem cdr{x:Cel}{us:List Value}(h:All2 (CRel ρ) [x] us):∃ u,us=[u]∧CRel ρ x u:=by
 match us,h with
 | [u],h=>exact⟨u,rfl,h.1⟩
theorem cmf:∀ (d:Nat) (t:TypeId) (xs ys:List Cel) (us vs:List Value) (e:X),eqTX P d t xs ys=some e→All2 (CRel ρ) xs us→All2 (CRel ρ) ys vs→den e=.v (.bool (den e).bv)∧eqT P d t (xs.map litV) (ys.map litV)=some (den e).bv
 | 0,t,xs,ys,us,vs,e,h,_,_=>by cases h
 | d+1,t,xs,ys,us,vs,e,h,hx,hy=>by
  simp only [eqTX] at h
  simp only [eqT]
  split at h
  ·rename_i k hu
   split at h
   ·rename_i x y
    obtain⟨u,rfl,rx⟩:=cdr hx
    obtain⟨u',rfl,ry⟩:=cdr hy
    split at h
    ·rename_i k1 e1 k2 e2 h1 h2
     split at h
     ·rename_i hk
      subst hk
      cases h
      obtain⟨a1,a2,_⟩:=b7f h1 rx
      obtain⟨b1,b2,_⟩:=b7f h2 ry
      refine⟨rfl,?_⟩
      rw [hu]
      simp only [List.map_cons,List.map_nil,a1,b1,if_true]
      show some ((den e1).iv==(den e2).iv)=some (eqC (den e1) (den e2))
      rw [a2,b2]
      show some ((den e1).iv==(den e2).iv)=some (decide ((den e1).iv=(den e2).iv))
      congr 1
     ·cases h
    ·cases h
   ·cases h
  ·rename_i hu
   split at h
   ·rename_i x y
    obtain⟨u,rfl,rx⟩:=cdr hx
    obtain⟨u',rfl,ry⟩:=cdr hy
    split at h
    ·rename_i e1 e2 h1 h2
     cases h
     obtain⟨a1,a2,_⟩:=cgf h1 rx
     obtain⟨b1,b2,_⟩:=cgf h2 ry
     refine⟨rfl,?_⟩
     rw [hu]
     simp only [List.map_cons,List.map_nil,a1,b1]
     show some ((den e1).bv==(den e2).bv)=some (eqC (den e1) (den e2))
     rw [a2,b2]
     rfl
    ·cases h
   ·cases h
  ·rename_i hu
   split at h
   ·rename_i x y
    obtain⟨u,rfl,rx⟩:=cdr hx
    obtain⟨u',rfl,ry⟩:=cdr hy
    split at h
    ·rename_i e1 e2 h1 h2
     cases h
     obtain⟨a1,a2,_⟩:=cel h1 rx
     obtain⟨b1,b2,_⟩:=cel h2 ry
     refine⟨rfl,?_⟩
     rw [hu]
     simp only [List.map_cons,List.map_nil,a1,b1]
     show some ((den e1).str.toList==(den e2).str.toList)=some (eqC (den e1) (den e2))
     rw [a2,b2]
     rfl
    ·cases h
   ·cases h
  ·rename_i fs hu
   split at h
   ·rename_i hp
    rw [hu]
    simp only [hp,if_true]
    exact cyh (fun t xs ys us vs e h hx hy=>cmf d t xs ys us vs e h hx hy) hx hy fs.toList e h
   ·cases h
  ·rename_i n el hu
   split at h
   ·rename_i ag c hs
    split at h
    ·rename_i hc
     rw [hu]
     simp only [hs,List.length_map,if_pos hc]
     exact cyf (fun xs ys us vs e h hx hy=>(cmf d el xs ys us vs e h hx hy).2) n e hx hy h
    ·cases h
   ·cases h
  ·cases h
theorem OpS.conv{op:Op}{v':AV}(h:OpS P ρ ev H w op v H')(hc:∀ ρ' u,VRel ρ' v u→VRel ρ' v' u):OpS P ρ ev H w op v' H':=by
 intro dst ty pos after guard
 exact b4n.mono (fun u w' ⟨ρ',h1,h2⟩=>⟨ρ',hc ρ' u h1,h2⟩) (h dst ty pos after guard)
noncomputable def litE(E:Operand→Option AV):Operand→Option AV:=fun z=>(E z).map litA
theorem cmx{z:Operand}(hz:∀ a,E z=some a→VRel ρ a (ev z)):∀ a,litE E z=some a→VRel ρ a (ev z):=fun a ha=>by
 unfold litE at ha
 obtain⟨b,hb,e⟩:=map_some ha
 subst e
 exact c3w (hz b hb)
theorem c7f{hy:List X}(hh:Holds hy){op:BinOp}{t:TypeId}{a b:AV}{c:Cel}{u u':Value}(h:binY P hy op t a b=some c)(ha:VRel ρ a u)(hb:VRel ρ b u') :
  ∃ r,(binA P op t (litA a) (litA b)=some r∨(binA P op t (litA a) (litA b)=none∧c8e P op t (litA a) (litA b)=some r))∧∀ ρ',Same ρ' c r:=by
 unfold binY at h
 split at h
 ·rename_i x y
  have hx:CRel ρ x u:=ha
  have hy':CRel ρ y u':=hb
  split at h
  ·rename_i k e k' e' h1 h2
   obtain⟨a1,a2,_,a4⟩:=b7f h1 hx
   obtain⟨b1,b2,_,b4⟩:=b7f h2 hy'
   split at h
   ·rename_i hs
    obtain⟨r,hr,hS⟩:∃ r,cfj op k (den e).iv (den e').iv=some r∧∀ ρ',Same ρ' c r:=by
     obtain⟨r,hr,_⟩:=c07 (ρ:=ρ) hh h rfl rfl
     refine⟨r,hr,fun ρ'=>?_⟩
     obtain⟨r',hr',h3⟩:=c07 (ρ:=ρ') hh h rfl rfl
     rw [hr] at hr'
     cases hr'
     exact h3
    refine⟨r,.inl ?_,hS⟩
    simp only [litA,a1,b1]
    cases op<;>first | (cases hs;done) | exact hr
   ·rename_i hs
    split at h
    ·rename_i hk
     subst hk
     obtain⟨r,hr,_⟩:=cyy (ρ:=ρ) hh h a2 b2
     refine⟨r,.inl ?_,fun ρ'=>?_⟩
     ·simp only [litA,a1,b1]
      cases op<;>first | (cases hs;done) | (show(if k=k then _ else none)=_;rw [if_pos rfl];exact hr)
     ·obtain⟨r',hr',h3⟩:=cyy (ρ:=ρ') hh h a2 b2
      rw [hr] at hr'
      cases hr'
      exact h3
    ·cases h
  ·split at h
   ·rename_i e e' h1 h2
    obtain⟨a1,a2,_,a4⟩:=cel h1 hx
    obtain⟨b1,b2,_,b4⟩:=cel h2 hy'
    obtain⟨r,hr,_⟩:=c1l (ρ:=ρ) hh h a2 b2 a4 b4
    refine⟨r,.inr ⟨?_,?_⟩,fun ρ'=>?_⟩
    ·simp only [litA,a1,b1]
     rfl
    ·simp only [litA,a1,b1]
     exact hr
    ·obtain⟨r',hr',h3⟩:=c1l (ρ:=ρ') hh h a2 b2 a4 b4
     rw [hr] at hr'
     cases hr'
     exact h3
   ·split at h
    ·rename_i e e' hu h1 h2
     obtain⟨a1,a2,_⟩:=cgf h1 hx
     obtain⟨b1,b2,_⟩:=cgf h2 hy'
     have eqd:den (.ap .eq [e,e'])=.v (.bool ((den e).bv==(den e').bv)):=by
      show b34 (eqC (den e) (den e'))=_
      rw [a2,b2]
      rfl
     split at h
     ·cases h
      refine⟨.bool ((den e).bv==(den e').bv),.inl ?_,fun ρ' _=>b5l eqd⟩
      simp only [litA,a1,b1,binA,hu]
     ·cases h
      refine⟨.bool !((den e).bv==(den e').bv),.inl ?_,fun ρ' _=>b5l ?_⟩
      ·simp only [litA,a1,b1,binA,hu]
      ·show b34 (!(den (.ap .eq [e,e'])).bv)=_
       rw [eqd]
       rfl
     ·cases h
    ·cases h
 ·rename_i xs ys
  obtain⟨us,_,hx⟩:=ha
  obtain⟨vs,_,hy'⟩:=hb
  split at h
  ·rename_i n hs
   split at h
   ·rename_i hp
    split at h
    ·rename_i e he
     cases h
     obtain⟨k1,k2⟩:=cmf 8 t xs ys _ _ e he hx hy'
     refine⟨.bool (den e).bv,.inl ?_,fun ρ' _=>b5l k1⟩
     simp only [litA,binA,hs,hp,if_true,k2]
    ·rename_i e he
     cases h
     obtain⟨k1,k2⟩:=cmf 8 t xs ys _ _ e he hx hy'
     refine⟨.bool (!(den e).bv),.inl ?_,fun ρ' _=>b5l rfl⟩
     simp only [litA,binA,hs,hp,if_true,k2]
    ·cases h
   ·cases h
  ·cases h
 ·cases h
theorem dah{op:BinOp}{t yt:TypeId}{x y:Operand}(h:yBin P E H op t x y=some (v,H'))(hx:∀ z,z=x∨z=y→∀ a,E z=some a→VRel ρ a (ev z))(hH:HRel ρ H w)(hd:Dom ρ H.n):St H H'∧OpS P ρ ev H w (.binOp op t x y yt) v H':=by
 unfold yBin at h
 split at h
 ·rename_i a b ha hb
  obtain⟨c,hc,e⟩:=map_some h
  cases e
  obtain⟨r,hr,hS⟩:=c7f hH.hy hc (hx x (.inl rfl) _ ha) (hx y (.inr rfl) _ hb)
  have ho:oBin P (litE E) H op t x y=some (.one (.lit r),H):=by
   unfold oBin litE
   rw [ha,hb]
   simp only [Option.map_some]
   rcases hr with hr | ⟨hr1,hr2⟩
   ·rw [hr]
   ·rw [hr1,hr2];rfl
  obtain⟨h1,h2⟩:=czl (yt:=yt) ho (fun z hz=>cmx (hx z hz)) hH hd
  refine⟨h1,h2.conv fun ρ' u ⟨e1,e2⟩=>?_⟩
  subst e1
  exact hS ρ' e2
 ·cases h
theorem ddu{op:UnOp}{t:TypeId}{x:Operand}(h:yUn E H op x=some (v,H'))(hx:∀ a,E x=some a→VRel ρ a (ev x))(hH:HRel ρ H w)(hd:Dom ρ H.n):St H H'∧OpS P ρ ev H w (.unOp op t x) v H':=by
 unfold yUn at h
 split at h
 ·rename_i c ha
  obtain⟨c',hc,e⟩:=map_some h
  cases e
  have hr:CRel ρ c (ev x):=hx _ ha
  unfold unY at hc
  split at hc
  ·split at hc
   ·rename_i e he
    cases hc
    obtain⟨a1,a2,_⟩:=cgf he hr
    have ho:oUn (litE E) H .not x=some (.one (.lit (.bool !(den e).bv)),H):=by
     unfold oUn litE
     rw [ha]
     simp only [Option.map_some,litA,a1]
    obtain⟨h1,h2⟩:=cz0 (P:=P) (t:=t) ho (cmx hx) hH hd
    exact⟨h1,h2.conv fun ρ' u ⟨e1,e2⟩=>by subst e1;exact b5l (ρ:=ρ') rfl⟩
   ·cases hc
  ·split at hc
   ·rename_i k e he
    cases hc
    obtain⟨a1,a2,_⟩:=b7f he hr
    have ho:oUn (litE E) H .neg x=some (.one (.lit (.int k (k.wrap (0 - (den e).iv)))),H):=by
     unfold oUn litE
     rw [ha]
     simp only [Option.map_some,litA,a1]
    obtain⟨h1,h2⟩:=cz0 (P:=P) (t:=t) ho (cmx hx) hH hd
    exact⟨h1,h2.conv fun ρ' u ⟨e1,e2⟩=>by subst e1;exact b5m (ρ:=ρ') rfl e2⟩
   ·cases hc
  ·cases hc
 ·cases h
theorem c5z{c a b:Operand}(h:c2h E H c a b=some (v,H'))(hx:∀ x,x=c∨x=a∨x=b→∀ r,E x=some r→VRel ρ r (ev x))(hH:HRel ρ H w)(hd:Dom ρ H.n):St H H'∧OpS P ρ ev H w (.pick c a b) v H':=by
 unfold c2h at h
 split at h
 ·rename_i G e hc
  split at h
  ·rename_i t ht
   have hb:=b61 hH.hy ht
   obtain⟨_,b',h1,h2⟩:=hx c (.inl rfl) _ hc
   have hbv:(den e).bv=b':=by rw [h1];rfl
   obtain⟨v',hv',ev'⟩:=map_some h
   cases ev'
   refine⟨St.refl H,OpS.val hH hd (u:=if t then ev a else ev b) ?_ fun dst ty pos after guard=>?_⟩
   ·cases t
    ·exact hx b (.inr (.inr rfl)) _ hv'
    ·exact hx a (.inr (.inl rfl)) _ hv'
   ·simp only [execOp,h2,asBool]
    rw [← hbv,hb]
    cases t<;>rfl
  ·cases h
 ·cases h
end
end Go.Sx
