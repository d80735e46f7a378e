/-
  Contracts of a seat's functions: which levels may be. Conditions: none.
-/
import Derived.Test.YtlbbkmcegbeckaaSbA
set_option linter.all false
set_option maxRecDepth 100000
noncomputable section
namespace Go.Proofs.Ytlbbkmcegbeckaa
open Go.Sx Go.Proofs
def S52:Fsp:=⟨[(false,[.sl [.int .u8]])],[.ap .le [.ap .len [.var 0],.lit (.int .i64 200)]],[(false,[.sl [.int .u8]])],[([],[[.ap (.mk false) [.var 0]]])],true⟩
def byn:List VC:=[]
def bth:List (List X×List (List X)):=[([(.ap (.typ (.sl [(.int .u8)])) [(V 0)]),(.ap .le [(.ap .len [(V 0)]),(I 200)])],[[(.ap (.mk false) [(.ap (.mk false) [(V 0)])])]])]
theorem bym:runS Try.prog (acr T0) 10 4 ⟨aa0 [],hintA []⟩ Try.f52 (aau Try.f52) S52=some (byn,bth):=by kernel_rfl
def T1:List (FuncId×Fsp):=[(52,S52)]
def S11:Fsp:=⟨[(true,sRun)],[.ap .le [.ap .len [.var 3],.lit (.int .i64 200)],.ap .le [.ap .len [.var 4],.lit (.int .i64 200)]],[(true,sRun)],[([],[[.var 0,.var 1,.var 2,.ap (.mk false) [.var 3],.ap (.mk false) [.var 4]]])],true⟩
def bxz:List VC:=[]
def bs0:List (List X×List (List X)):=[([(.ap (.typ (.sl [(.int .u8)])) [(.ap (.mk false) [(V 4)])]),(.ap (.typ (.sl [(.int .u8)])) [(.ap (.mk false) [(V 3)])]),(.ap .le [LoI,(V 0)]),(.ap .le [(V 0),HiI]),(.ap .le [LoI,(V 1)]),(.ap .le [(V 1),HiI]),(.ap .le [LoI,(V 2)]),(.ap .le [(V 2),HiI]),(.ap (.typ (.sl [(.int .u8)])) [(V 3)]),(.ap (.typ (.sl [(.int .u8)])) [(V 4)]),(.ap .le [(.ap .len [(V 3)]),(I 200)]),(.ap .le [(.ap .len [(V 4)]),(I 200)])],[[(V 0),(V 1),(V 2),(.ap (.mk false) [(V 3)]),(.ap (.mk false) [(V 4)])]])]
theorem bxy:runS Try.prog (acr (tab T1)) 10 4 ⟨aa0 [],hintA []⟩ Try.f11 (aau Try.f11) S11=some (bxz,bs0):=by kernel_rfl
def T2:List (FuncId×Fsp):=[(11,S11)]
def lp27:Lp:=⟨[(.slot 3,.own true sRun),(.slot 4,.int .i64)],[0,2],[],fun F H k=>[.ap .le [zI,.var (k+2)],.ap .le [.var (k+2),.ap .len [.var 0]],.ap .le [.var k,.var (k+2)],.ap .le [.var (k+2),.var k],.ap .same [.ap (.mk true) [.var (k+1)],.ap (.usr 3) [.var 0,.var (k+2)]]],fun F H k=>.ap (.sub .i64) [.ap .len [.var 0],.var (k+2)]⟩
def as27:Fm→HP→List X:=fun F H=>[.ap .le [.ap .len [.ap (.cell 3) [.var 0,sx F 4]],.lit (.int .i64 200)],.ap .le [.ap .len [.ap (.cell 4) [.var 0,sx F 4]],.lit (.int .i64 200)]]
def S27:Fsp:=⟨[(false,[.sl sRun])],[.ap .le [.ap .len [.var 0],.lit (.int .i64 40)],.ap .not [.ap (.usr 0) [.var 0,.lit (.int .i64 40)]]],[(false,[.sl sRun])],[([],[[.ap (.usr 2) [.var 0]]])],true⟩
def byg:List VC:=[([(.ap (.typ (.sl [(.int .i64),(.int .i64),(.int .i64),(.sl [(.int .u8)]),(.sl [(.int .u8)])])) [(V 0)]),(.ap .le [(.ap .len [(V 0)]),(I 40)]),(.ap .not [(.ap (.usr 0) [(V 0),(I 40)])])],(.ap .same [(.ap (.mk true) [(.ap (.nil true) [])]),(.ap (.usr 3) [(V 0),(I 0)])])),
 ([(.ap .lt [(V 3),(.ap .len [(V 0)])]),(.ap .le [(I 0),(V 3)]),(.ap .le [(V 3),(.ap .len [(V 0)])]),(.ap .le [(V 1),(V 3)]),(.ap .le [(V 3),(V 1)]),(.ap .same [(.ap (.mk true) [(V 2)]),(.ap (.usr 3) [(V 0),(V 3)])]),(.ap (.typ (.sl [(.int .i64),(.int .i64),(.int .i64),(.sl [(.int .u8)]),(.sl [(.int .u8)])])) [(V 0)]),(.ap .le [(.ap .len [(V 0)]),(I 40)]),(.ap .not [(.ap (.usr 0) [(V 0),(I 40)])])],(.ap .le [(.ap .len [(.ap (.cell 3) [(V 0),(V 3)])]),(I 200)])),
 ([(.ap .lt [(V 3),(.ap .len [(V 0)])]),(.ap .le [(I 0),(V 3)]),(.ap .le [(V 3),(.ap .len [(V 0)])]),(.ap .le [(V 1),(V 3)]),(.ap .le [(V 3),(V 1)]),(.ap .same [(.ap (.mk true) [(V 2)]),(.ap (.usr 3) [(V 0),(V 3)])]),(.ap (.typ (.sl [(.int .i64),(.int .i64),(.int .i64),(.sl [(.int .u8)]),(.sl [(.int .u8)])])) [(V 0)]),(.ap .le [(.ap .len [(V 0)]),(I 40)]),(.ap .not [(.ap (.usr 0) [(V 0),(I 40)])])],(.ap .le [(.ap .len [(.ap (.cell 4) [(V 0),(V 3)])]),(I 200)])),
 ([(.ap .le [LoI,(.ap (.cell 0) [(V 0),(V 3)])]),(.ap .le [(.ap (.cell 0) [(V 0),(V 3)]),HiI]),(.ap .le [LoI,(.ap (.cell 1) [(V 0),(V 3)])]),(.ap .le [(.ap (.cell 1) [(V 0),(V 3)]),HiI]),(.ap .le [LoI,(.ap (.cell 2) [(V 0),(V 3)])]),(.ap .le [(.ap (.cell 2) [(V 0),(V 3)]),HiI]),(.ap (.typ (.sl [(.int .u8)])) [(.ap (.mk false) [(.ap (.cell 3) [(V 0),(V 3)])])]),(.ap (.typ (.sl [(.int .u8)])) [(.ap (.mk false) [(.ap (.cell 4) [(V 0),(V 3)])])]),(.ap .le [(.ap .len [(.ap (.cell 3) [(V 0),(V 3)])]),(I 200)]),(.ap .le [(.ap .len [(.ap (.cell 4) [(V 0),(V 3)])]),(I 200)]),(.ap .lt [(V 3),(.ap .len [(V 0)])]),(.ap .le [(I 0),(V 3)]),(.ap .le [(V 3),(.ap .len [(V 0)])]),(.ap .le [(V 1),(V 3)]),(.ap .le [(V 3),(V 1)]),(.ap .same [(.ap (.mk true) [(V 2)]),(.ap (.usr 3) [(V 0),(V 3)])]),(.ap (.typ (.sl [(.int .i64),(.int .i64),(.int .i64),(.sl [(.int .u8)]),(.sl [(.int .u8)])])) [(V 0)]),(.ap .le [(.ap .len [(V 0)]),(I 40)]),(.ap .not [(.ap (.usr 0) [(V 0),(I 40)])])],(.ap .same [(.ap (.mk true) [(.ap .cat [(V 2),(.ap .snoc [(.ap (.nil false) []),(.ap (.cell 0) [(V 0),(V 3)]),(.ap (.cell 1) [(V 0),(V 3)]),(.ap (.cell 2) [(V 0),(V 3)]),(.ap (.mk false) [(.ap (.cell 3) [(V 0),(V 3)])]),(.ap (.mk false) [(.ap (.cell 4) [(V 0),(V 3)])])])])]),(.ap (.usr 3) [(V 0),(.ap (.add .i64) [(V 3),(I 1)])])]))]
def btb:List (List X×List (List X)):=[([(.ap .not [(.ap .lt [(V 3),(.ap .len [(V 0)])])]),(.ap .le [(I 0),(V 3)]),(.ap .le [(V 3),(.ap .len [(V 0)])]),(.ap .le [(V 1),(V 3)]),(.ap .le [(V 3),(V 1)]),(.ap .same [(.ap (.mk true) [(V 2)]),(.ap (.usr 3) [(V 0),(V 3)])]),(.ap (.typ (.sl [(.int .i64),(.int .i64),(.int .i64),(.sl [(.int .u8)]),(.sl [(.int .u8)])])) [(V 0)]),(.ap .le [(.ap .len [(V 0)]),(I 40)]),(.ap .not [(.ap (.usr 0) [(V 0),(I 40)])])],[[(.ap (.mk true) [(V 2)])]])]
theorem byf:runS Try.prog (acr (tab T2)) 10 4 ⟨aa0 [(3,lp27)],hintA [(5,as27)]⟩ Try.f27 (aau Try.f27) S27=some (byg,btb):=by kernel_rfl
theorem hT1':∀ f S,T0 f=some S→aah U Try.prog f S:=fun f S h=>nomatch h
theorem c52:aah U Try.prog 52 S52:=by
 refine aah.of (P:=Try.prog) (U:=U) (T:=T0) (f:=52) (fn:=Try.f52) (fuel:=10) (fk:=4) (hs:=⟨aa0 [],hintA []⟩) (S:=S52) (v:=byn) (outs:=bth) mixed hT1' at52 bym (aa7 _) ?_
 intro o ho σ hU hh
 simp only [bth,Mn,List.not_mem_nil,or_false] at ho
 subst ho
 exact⟨_,Ms ..,by simp only [wA,wB],rfl⟩
theorem hT1:ae1 U Try.prog T1:=.cons c52 .nil
theorem c11:aah U Try.prog 11 S11:=by
 refine aah.of (P:=Try.prog) (U:=U) (T:=tab T1) (f:=11) (fn:=Try.f11) (fuel:=10) (fk:=4) (hs:=⟨aa0 [],hintA []⟩) (S:=S11) (v:=bxz) (outs:=bs0) mixed hT1 at11 bxy (aa7 _) ?_
 intro o ho σ hU hh
 simp only [bs0,Mn,List.not_mem_nil,or_false] at ho
 subst ho
 exact⟨_,Ms ..,by simp only [wA,wB],rfl⟩
theorem hT2:ae1 U Try.prog T2:=.cons c11 .nil
theorem us3(a b:CD):@Us.u U 3 [a,b]=mkz ((a.rows.take b.iv.toNat).map aa9):=rfl
theorem us0(a b:CD):((@Us.u U 0 [a,b]).bv=true)=(aag a b.iv=true):=rfl
theorem av9{r r':List (List CD)}:(CD.sl (true&&r.isEmpty) r=mkz r')=(r=r'):=by
 unfold mkz
 simp only [Bool.true_and,CD.sl.injEq,eq_iff_iff]
 exact⟨fun h=>h.2,fun h=>by rw [h];exact⟨rfl,rfl⟩⟩
theorem ax8{l:CD}{k i:Int}(h:¬ aag l k=true)(hl:l.len=l.rows.length)(h0:0≤i)(hi:i<l.len):((l.cell i 3).len:Int)≤200∧((l.cell i 4).len:Int)≤200:=by
 have hlt:i.toNat<l.rows.length:=by omega
 unfold aag at h
 simp only [Bool.or_eq_true,Dt,not_or,List.any_eq_true,not_exists,not_and] at h
 have:=h.2 _ (List.getElem_mem hlt)
 unfold aev at this
 simp only [Bool.or_eq_true,Dt,not_or] at this
 unfold CD.cell
 rw [show l.rows.getD i.toNat []=l.rows[i.toNat] by rw [Gd,Gl hlt];rfl]
 omega
theorem c27:aah U Try.prog 27 S27:=by
 refine aah.of (P:=Try.prog) (U:=U) (T:=tab T2) (f:=27) (fn:=Try.f27) (fuel:=10) (fk:=4) (hs:=⟨aa0 [(3,lp27)],hintA [(5,as27)]⟩) (S:=S27) (v:=byg) (outs:=btb) mixed hT2 at27 byf ?_ ?_
 ·refine aai (fun v hh=>?_) (aai (fun v hh=>?_) (aai (fun v hh=>?_) (aai (fun v hh=>?_) (aa7 _))))
  all_goals simp only [wA,wB] at hh ⊢
  ·rw [us3,av9];rfl
  ·obtain⟨h1,h2,h3,_,_,h4,hT,h5,h6,_⟩:=hh
   rw [us0] at h6
   exact(ax8 h6 hT.sl.1 h2 h1).1
  ·obtain⟨h1,h2,h3,_,_,h4,hT,h5,h6,_⟩:=hh
   rw [us0] at h6
   exact(ax8 h6 hT.sl.1 h2 h1).2
  ·obtain⟨_,_,_,_,_,_,_,_,_,_,h1,h2,h3,_,_,h4,hT,h5,h6,_⟩:=hh
   rw [us3,av9] at h4 ⊢
   rw [aae,apq hT.sl.1 h2 h1,List.map_append,← h4]
   rfl
 ·intro o ho σ hU hh
  obtain⟨v⟩:=σ
  cases hU
  simp only [btb,Mn,List.not_mem_nil,or_false] at ho
  subst ho
  refine⟨_,Ms ..,by simp only [wA,wB],?_⟩
  simp only [wA,wB] at hh
  simp only [List.map_cons,List.map_nil,wA,wB]
  obtain⟨h1,h2,h3,_,_,h4,hT,h5,h6,_⟩:=hh
  rw [us3,apo hT.sl.1 h1] at h4
  rw [h4]
  rfl
abbrev sB:Srt:=.sl [.int .u8]
def S101:Fsp:=⟨[(false,[sB]),(false,[sB])],[],[(false,[.bool])],[([],[[.ap (.usr 4) [.var 0,.var 1]]])],true⟩
def bqb:List VC:=[]
def bir:List (List X×List (List X)):=[([(.ap (.typ (.sl [(.int .u8)])) [(V 0)]),(.ap (.typ (.sl [(.int .u8)])) [(V 1)])],[[(.ap .eq [(.ap .str [(V 0)]),(.ap .str [(V 1)])])]])]
theorem bsu:runS Try.prog (acr T0) 10 4 ⟨aa0 [],hintA []⟩ Try.f101 (aau Try.f101) S101=some (bqb,bir):=by kernel_rfl
def T3:List (FuncId×Fsp):=[(101,S101)]
def S58:Fsp:=⟨[(true,sRun),(true,sRun)],[],[(false,[.bool])],[([],[[.ap (.usr 5) [.var 0,.var 1,.var 2,.var 3,.var 4,.var 5,.var 6,.var 7,.var 8,.var 9]]])],true⟩
def byu:List VC:=[]
def btk:List (List X×List (List X)):=[([(.ap (.usr 4) [(V 3),(V 8)]),(.ap .eq [(V 2),(V 7)]),(.ap .and [(.ap .eq [(V 0),(V 5)]),(.ap .and [(.ap .eq [(V 1),(V 6)]),(.lit (.bool true))])]),(.ap .le [LoI,(V 0)]),(.ap .le [(V 0),HiI]),(.ap .le [LoI,(V 1)]),(.ap .le [(V 1),HiI]),(.ap .le [LoI,(V 2)]),(.ap .le [(V 2),HiI]),(.ap (.typ (.sl [(.int .u8)])) [(V 3)]),(.ap (.typ (.sl [(.int .u8)])) [(V 4)]),(.ap .le [LoI,(V 5)]),(.ap .le [(V 5),HiI]),(.ap .le [LoI,(V 6)]),(.ap .le [(V 6),HiI]),(.ap .le [LoI,(V 7)]),(.ap .le [(V 7),HiI]),(.ap (.typ (.sl [(.int .u8)])) [(V 8)]),(.ap (.typ (.sl [(.int .u8)])) [(V 9)])],[[(.ap (.usr 4) [(V 4),(V 9)])]]),
 ([(.ap .not [(.ap (.usr 4) [(V 3),(V 8)])]),(.ap .eq [(V 2),(V 7)]),(.ap .and [(.ap .eq [(V 0),(V 5)]),(.ap .and [(.ap .eq [(V 1),(V 6)]),(.lit (.bool true))])]),(.ap .le [LoI,(V 0)]),(.ap .le [(V 0),HiI]),(.ap .le [LoI,(V 1)]),(.ap .le [(V 1),HiI]),(.ap .le [LoI,(V 2)]),(.ap .le [(V 2),HiI]),(.ap (.typ (.sl [(.int .u8)])) [(V 3)]),(.ap (.typ (.sl [(.int .u8)])) [(V 4)]),(.ap .le [LoI,(V 5)]),(.ap .le [(V 5),HiI]),(.ap .le [LoI,(V 6)]),(.ap .le [(V 6),HiI]),(.ap .le [LoI,(V 7)]),(.ap .le [(V 7),HiI]),(.ap (.typ (.sl [(.int .u8)])) [(V 8)]),(.ap (.typ (.sl [(.int .u8)])) [(V 9)])],[[(.lit (.bool false))]]),
 ([(.ap .not [(.ap .eq [(V 2),(V 7)])]),(.ap .and [(.ap .eq [(V 0),(V 5)]),(.ap .and [(.ap .eq [(V 1),(V 6)]),(.lit (.bool true))])]),(.ap .le [LoI,(V 0)]),(.ap .le [(V 0),HiI]),(.ap .le [LoI,(V 1)]),(.ap .le [(V 1),HiI]),(.ap .le [LoI,(V 2)]),(.ap .le [(V 2),HiI]),(.ap (.typ (.sl [(.int .u8)])) [(V 3)]),(.ap (.typ (.sl [(.int .u8)])) [(V 4)]),(.ap .le [LoI,(V 5)]),(.ap .le [(V 5),HiI]),(.ap .le [LoI,(V 6)]),(.ap .le [(V 6),HiI]),(.ap .le [LoI,(V 7)]),(.ap .le [(V 7),HiI]),(.ap (.typ (.sl [(.int .u8)])) [(V 8)]),(.ap (.typ (.sl [(.int .u8)])) [(V 9)])],[[(.lit (.bool false))]]),
 ([(.ap .not [(.ap .and [(.ap .eq [(V 0),(V 5)]),(.ap .and [(.ap .eq [(V 1),(V 6)]),(.lit (.bool true))])])]),(.ap .le [LoI,(V 0)]),(.ap .le [(V 0),HiI]),(.ap .le [LoI,(V 1)]),(.ap .le [(V 1),HiI]),(.ap .le [LoI,(V 2)]),(.ap .le [(V 2),HiI]),(.ap (.typ (.sl [(.int .u8)])) [(V 3)]),(.ap (.typ (.sl [(.int .u8)])) [(V 4)]),(.ap .le [LoI,(V 5)]),(.ap .le [(V 5),HiI]),(.ap .le [LoI,(V 6)]),(.ap .le [(V 6),HiI]),(.ap .le [LoI,(V 7)]),(.ap .le [(V 7),HiI]),(.ap (.typ (.sl [(.int .u8)])) [(V 8)]),(.ap (.typ (.sl [(.int .u8)])) [(V 9)])],[[(.lit (.bool false))]])]
theorem bys:runS Try.prog (acr (tab T3)) 10 5 ⟨aa0 [],hintA []⟩ Try.f58 (aau Try.f58) S58=some (byu,btk):=by kernel_rfl
def T4:List (FuncId×Fsp):=[(58,S58)]
def lp19:Lp:=⟨[(.slot 5,.int .i64)],[0,1,4],[0,1],fun F H k=>[.ap .le [zI,.var k],.ap .le [.var k,.ap .len [.var 0]],.ap (.usr 7) [.var 0,.var 1,.var k]],fun F H k=>.ap (.sub .i64) [.ap .len [.var 0],.var k]⟩
def S19:Fsp:=⟨[(false,[.sl sRun]),(false,[.sl sRun])],[],[(false,[.bool])],[([],[[.ap (.usr 6) [.var 0,.var 1]]])],true⟩
def bya:List VC:=[([(.ap .eq [(.ap .len [(V 0)]),(.ap .len [(V 1)])]),(.ap (.typ (.sl [(.int .i64),(.int .i64),(.int .i64),(.sl [(.int .u8)]),(.sl [(.int .u8)])])) [(V 0)]),(.ap (.typ (.sl [(.int .i64),(.int .i64),(.int .i64),(.sl [(.int .u8)]),(.sl [(.int .u8)])])) [(V 1)])],(.ap (.usr 7) [(V 0),(V 1),(I 0)])),
 ([(.ap (.usr 5) [(.ap (.cell 0) [(V 0),(V 2)]),(.ap (.cell 1) [(V 0),(V 2)]),(.ap (.cell 2) [(V 0),(V 2)]),(.ap (.cell 3) [(V 0),(V 2)]),(.ap (.cell 4) [(V 0),(V 2)]),(.ap (.cell 0) [(V 1),(V 2)]),(.ap (.cell 1) [(V 1),(V 2)]),(.ap (.cell 2) [(V 1),(V 2)]),(.ap (.cell 3) [(V 1),(V 2)]),(.ap (.cell 4) [(V 1),(V 2)])]),(.ap .lt [(V 2),(.ap .len [(V 0)])]),(.ap .le [(I 0),(V 2)]),(.ap .le [(V 2),(.ap .len [(V 0)])]),(.ap (.usr 7) [(V 0),(V 1),(V 2)]),(.ap .eq [(.ap .len [(V 0)]),(.ap .len [(V 1)])]),(.ap (.typ (.sl [(.int .i64),(.int .i64),(.int .i64),(.sl [(.int .u8)]),(.sl [(.int .u8)])])) [(V 0)]),(.ap (.typ (.sl [(.int .i64),(.int .i64),(.int .i64),(.sl [(.int .u8)]),(.sl [(.int .u8)])])) [(V 1)])],(.ap (.usr 7) [(V 0),(V 1),(.ap (.add .i64) [(V 2),(I 1)])]))]
def bs8:List (List X×List (List X)):=[([(.ap .not [(.ap .eq [(.ap .len [(V 0)]),(.ap .len [(V 1)])])]),(.ap (.typ (.sl [(.int .i64),(.int .i64),(.int .i64),(.sl [(.int .u8)]),(.sl [(.int .u8)])])) [(V 0)]),(.ap (.typ (.sl [(.int .i64),(.int .i64),(.int .i64),(.sl [(.int .u8)]),(.sl [(.int .u8)])])) [(V 1)])],[[(.lit (.bool false))]]),
 ([(.ap .not [(.ap (.usr 5) [(.ap (.cell 0) [(V 0),(V 2)]),(.ap (.cell 1) [(V 0),(V 2)]),(.ap (.cell 2) [(V 0),(V 2)]),(.ap (.cell 3) [(V 0),(V 2)]),(.ap (.cell 4) [(V 0),(V 2)]),(.ap (.cell 0) [(V 1),(V 2)]),(.ap (.cell 1) [(V 1),(V 2)]),(.ap (.cell 2) [(V 1),(V 2)]),(.ap (.cell 3) [(V 1),(V 2)]),(.ap (.cell 4) [(V 1),(V 2)])])]),(.ap .lt [(V 2),(.ap .len [(V 0)])]),(.ap .le [(I 0),(V 2)]),(.ap .le [(V 2),(.ap .len [(V 0)])]),(.ap (.usr 7) [(V 0),(V 1),(V 2)]),(.ap .eq [(.ap .len [(V 0)]),(.ap .len [(V 1)])]),(.ap (.typ (.sl [(.int .i64),(.int .i64),(.int .i64),(.sl [(.int .u8)]),(.sl [(.int .u8)])])) [(V 0)]),(.ap (.typ (.sl [(.int .i64),(.int .i64),(.int .i64),(.sl [(.int .u8)]),(.sl [(.int .u8)])])) [(V 1)])],[[(.lit (.bool false))]]),
 ([(.ap .not [(.ap .lt [(V 2),(.ap .len [(V 0)])])]),(.ap .le [(I 0),(V 2)]),(.ap .le [(V 2),(.ap .len [(V 0)])]),(.ap (.usr 7) [(V 0),(V 1),(V 2)]),(.ap .eq [(.ap .len [(V 0)]),(.ap .len [(V 1)])]),(.ap (.typ (.sl [(.int .i64),(.int .i64),(.int .i64),(.sl [(.int .u8)]),(.sl [(.int .u8)])])) [(V 0)]),(.ap (.typ (.sl [(.int .i64),(.int .i64),(.int .i64),(.sl [(.int .u8)]),(.sl [(.int .u8)])])) [(V 1)])],[[(.lit (.bool true))]])]
theorem bx9:runS Try.prog (acr (tab T4)) 10 4 ⟨aa0 [(4,lp19)],hintA []⟩ Try.f19 (aau Try.f19) S19=some (bya,bs8):=by kernel_rfl
def T5:List (FuncId×Fsp):=[(19,S19)]
def lp18:Lp:=⟨[(.slot 5,.int .i64)],[0,1,4],[0,1],fun F H k=>[.ap .le [zI,.var k],.ap .le [.var k,.ap .len [.var 0]],.ap (.usr 9) [.var 0,.var 1,.var k]],fun F H k=>.ap (.sub .i64) [.ap .len [.var 0],.var k]⟩
def S18:Fsp:=⟨[(false,[.sl [.sl sRun]]),(false,[.sl [.sl sRun]])],[],[(false,[.bool])],[([],[[.ap (.usr 8) [.var 0,.var 1]]])],true⟩
def bx8:List VC:=[([(.ap .eq [(.ap .len [(V 0)]),(.ap .len [(V 1)])]),(.ap (.typ (.sl [(.sl [(.int .i64),(.int .i64),(.int .i64),(.sl [(.int .u8)]),(.sl [(.int .u8)])])])) [(V 0)]),(.ap (.typ (.sl [(.sl [(.int .i64),(.int .i64),(.int .i64),(.sl [(.int .u8)]),(.sl [(.int .u8)])])])) [(V 1)])],(.ap (.usr 9) [(V 0),(V 1),(I 0)])),
 ([(.ap (.usr 6) [(.ap (.cell 0) [(V 0),(V 2)]),(.ap (.cell 0) [(V 1),(V 2)])]),(.ap .lt [(V 2),(.ap .len [(V 0)])]),(.ap .le [(I 0),(V 2)]),(.ap .le [(V 2),(.ap .len [(V 0)])]),(.ap (.usr 9) [(V 0),(V 1),(V 2)]),(.ap .eq [(.ap .len [(V 0)]),(.ap .len [(V 1)])]),(.ap (.typ (.sl [(.sl [(.int .i64),(.int .i64),(.int .i64),(.sl [(.int .u8)]),(.sl [(.int .u8)])])])) [(V 0)]),(.ap (.typ (.sl [(.sl [(.int .i64),(.int .i64),(.int .i64),(.sl [(.int .u8)]),(.sl [(.int .u8)])])])) [(V 1)])],(.ap (.usr 9) [(V 0),(V 1),(.ap (.add .i64) [(V 2),(I 1)])]))]
def bs7:List (List X×List (List X)):=[([(.ap .not [(.ap .eq [(.ap .len [(V 0)]),(.ap .len [(V 1)])])]),(.ap (.typ (.sl [(.sl [(.int .i64),(.int .i64),(.int .i64),(.sl [(.int .u8)]),(.sl [(.int .u8)])])])) [(V 0)]),(.ap (.typ (.sl [(.sl [(.int .i64),(.int .i64),(.int .i64),(.sl [(.int .u8)]),(.sl [(.int .u8)])])])) [(V 1)])],[[(.lit (.bool false))]]),
 ([(.ap .not [(.ap (.usr 6) [(.ap (.cell 0) [(V 0),(V 2)]),(.ap (.cell 0) [(V 1),(V 2)])])]),(.ap .lt [(V 2),(.ap .len [(V 0)])]),(.ap .le [(I 0),(V 2)]),(.ap .le [(V 2),(.ap .len [(V 0)])]),(.ap (.usr 9) [(V 0),(V 1),(V 2)]),(.ap .eq [(.ap .len [(V 0)]),(.ap .len [(V 1)])]),(.ap (.typ (.sl [(.sl [(.int .i64),(.int .i64),(.int .i64),(.sl [(.int .u8)]),(.sl [(.int .u8)])])])) [(V 0)]),(.ap (.typ (.sl [(.sl [(.int .i64),(.int .i64),(.int .i64),(.sl [(.int .u8)]),(.sl [(.int .u8)])])])) [(V 1)])],[[(.lit (.bool false))]]),
 ([(.ap .not [(.ap .lt [(V 2),(.ap .len [(V 0)])])]),(.ap .le [(I 0),(V 2)]),(.ap .le [(V 2),(.ap .len [(V 0)])]),(.ap (.usr 9) [(V 0),(V 1),(V 2)]),(.ap .eq [(.ap .len [(V 0)]),(.ap .len [(V 1)])]),(.ap (.typ (.sl [(.sl [(.int .i64),(.int .i64),(.int .i64),(.sl [(.int .u8)]),(.sl [(.int .u8)])])])) [(V 0)]),(.ap (.typ (.sl [(.sl [(.int .i64),(.int .i64),(.int .i64),(.sl [(.int .u8)]),(.sl [(.int .u8)])])])) [(V 1)])],[[(.lit (.bool true))]])]
theorem bx7:runS Try.prog (acr (tab T5)) 10 4 ⟨aa0 [(4,lp18)],hintA []⟩ Try.f18 (aau Try.f18) S18=some (bx8,bs7):=by kernel_rfl
section
variable [Sg]
theorem bwf(a b:X):den (.ap .eq [.ap .str [a],.ap .str [b]])=aan (aph (den a) (den b)):=by
 show aan ((⟨((den a).rows.map aha).toArray⟩:ByteArray).toList==(⟨((den b).rows.map aha).toArray⟩:ByteArray).toList)=_
 rw [ByteArray.toList_eq,ByteArray.toList_eq]
 rfl
end
theorem c101:aah U Try.prog 101 S101:=by
 refine aah.of (P:=Try.prog) (U:=U) (T:=T0) (f:=101) (fn:=Try.f101) (fuel:=10) (fk:=4) (hs:=⟨aa0 [],hintA []⟩) (S:=S101) (v:=bqb) (outs:=bir) mixed hT1' bz9 bsu (aa7 _) ?_
 intro o ho σ hU hh
 obtain⟨v⟩:=σ
 cases hU
 simp only [bir,Mn,List.not_mem_nil,or_false] at ho
 subst ho
 refine⟨_,Ms ..,by simp only [wA,wB],?_⟩
 simp only [List.map_cons,List.map_nil,w_l1,w_l0,bwf]
 rfl
theorem hT3:ae1 U Try.prog T3:=.cons c101 .nil
theorem us4(a b:CD):((@Us.u U 4 [a,b]).bv=true)=(aph a b=true):=rfl
theorem us5(a b c d e f g h i j:CD):@Us.u U 5 [a,b,c,d,e,f,g,h,i,j]=aan (eqC a f&&eqC b g&&eqC c h&&aph d i&&aph e j):=rfl
theorem c58:aah U Try.prog 58 S58:=by
 refine aah.of (P:=Try.prog) (U:=U) (T:=tab T3) (f:=58) (fn:=Try.f58) (fuel:=10) (fk:=5) (hs:=⟨aa0 [],hintA []⟩) (S:=S58) (v:=byu) (outs:=btk) mixed hT3 at58 bys (aa7 _) ?_
 intro o ho σ hU hh
 obtain⟨v⟩:=σ
 cases hU
 simp only [btk,Mn,List.not_mem_nil,or_false] at ho
 rcases ho with rfl | rfl | rfl | rfl
 all_goals
  refine⟨_,Ms ..,by simp only [wA,wB],?_⟩
  simp only [wA,wB,us4] at hh
  simp only [List.map_cons,List.map_nil,wA,wB,us5]
 ·obtain⟨h1,h2,⟨h3,h4,_⟩,_⟩:=hh
  rw [h1,h2,h3,h4]
  rfl
 ·obtain⟨h1,h2,⟨h3,h4,_⟩,_⟩:=hh
  rw [h2,h3,h4,Bool.eq_false_iff.2 h1]
  rfl
 ·obtain⟨h1,⟨h3,h4,_⟩,_⟩:=hh
  rw [h3,h4,Bool.eq_false_iff.2 h1]
  rfl
 ·obtain⟨h1,_⟩:=hh
  have:(eqC (v 0) (v 5)&&eqC (v 1) (v 6))=false:=by
   cases ha:eqC (v 0) (v 5)<;>cases hb:eqC (v 1) (v 6)<;>first | rfl | (exfalso;exact h1 ⟨ha,hb,trivial⟩) | (exfalso;apply h1;simp [ha,hb])
  rw [this]
  rfl
theorem hT4:ae1 U Try.prog T4:=.cons c58 .nil
theorem us6(a b:CD):@Us.u U 6 [a,b]=aan (allS aju a.rows b.rows):=rfl
theorem us7(a b c:CD):((@Us.u U 7 [a,b,c]).bv=true)=(allS aju (a.rows.take c.iv.toNat) (b.rows.take c.iv.toNat)=true):=rfl
theorem us8(a b:CD):@Us.u U 8 [a,b]=aan (allS aof a.rows b.rows):=rfl
theorem us9(a b c:CD):((@Us.u U 9 [a,b,c]).bv=true)=(allS aof (a.rows.take c.iv.toNat) (b.rows.take c.iv.toNat)=true):=rfl
theorem c19:aah U Try.prog 19 S19:=by
 refine aah.of (P:=Try.prog) (U:=U) (T:=tab T4) (f:=19) (fn:=Try.f19) (fuel:=10) (fk:=4) (hs:=⟨aa0 [(4,lp19)],hintA []⟩) (S:=S19) (v:=bya) (outs:=bs8) mixed hT4 at19 bx9 ?_ ?_
 ·refine aai (fun v hh=>?_) (aai (fun v hh=>?_) (aa7 _))
  all_goals simp only [wA,wB,a5z,us5,us6,us7] at hh ⊢
  ·rfl
  ·obtain⟨h1,h2,h3,_,h4,h5,hT0,hT1,_⟩:=hh
   exact bzt (f:=aju) hT0.sl.1 hT1.sl.1 h5 h3 h2 h4 h1
 ·intro o ho σ hU hh
  obtain⟨v⟩:=σ
  cases hU
  simp only [bs8,Mn,List.not_mem_nil,or_false] at ho
  rcases ho with rfl | rfl | rfl
  all_goals
   refine⟨_,Ms ..,by simp only [wA,wB],?_⟩
   simp only [wA,wB,a5z,us5,us6,us7] at hh
   simp only [List.map_cons,List.map_nil,wA,wB,us5,us6,us7]
  ·obtain⟨h1,hT0,hT1,_⟩:=hh
   rw [lenS (f:=aju) hT0.sl.1 hT1.sl.1 h1]
   rfl
  ·obtain⟨h1,h2,h3,_,h4,h5,hT0,hT1,_⟩:=hh
   rw [rowS (f:=aju) hT0.sl.1 h3 h2 h1]
   rfl
  ·obtain⟨h2,h3,_,h4,h5,hT0,hT1,_⟩:=hh
   rw [bv4 (f:=aju) hT0.sl.1 hT1.sl.1 h5 h2 h4]
   rfl
theorem hT5:ae1 U Try.prog T5:=.cons c19 .nil
theorem c18:aah U Try.prog 18 S18:=by
 refine aah.of (P:=Try.prog) (U:=U) (T:=tab T5) (f:=18) (fn:=Try.f18) (fuel:=10) (fk:=4) (hs:=⟨aa0 [(4,lp18)],hintA []⟩) (S:=S18) (v:=bx8) (outs:=bs7) mixed hT5 at18 bx7 ?_ ?_
 ·refine aai (fun v hh=>?_) (aai (fun v hh=>?_) (aa7 _))
  all_goals simp only [wA,wB,a5z,us6,us8,us9] at hh ⊢
  ·rfl
  ·obtain⟨h1,h2,h3,_,h4,h5,hT0,hT1,_⟩:=hh
   exact bzt (f:=aof) hT0.sl.1 hT1.sl.1 h5 h3 h2 h4 h1
 ·intro o ho σ hU hh
  obtain⟨v⟩:=σ
  cases hU
  simp only [bs7,Mn,List.not_mem_nil,or_false] at ho
  rcases ho with rfl | rfl | rfl
  all_goals
   refine⟨_,Ms ..,by simp only [wA,wB],?_⟩
   simp only [wA,wB,a5z,us6,us8,us9] at hh
   simp only [List.map_cons,List.map_nil,wA,wB,us6,us8,us9]
  ·obtain⟨h1,hT0,hT1,_⟩:=hh
   rw [lenS (f:=aof) hT0.sl.1 hT1.sl.1 h1]
   rfl
  ·obtain⟨h1,h2,h3,_,h4,h5,hT0,hT1,_⟩:=hh
   rw [rowS (f:=aof) hT0.sl.1 h3 h2 h1]
   rfl
  ·obtain⟨h2,h3,_,h4,h5,hT0,hT1,_⟩:=hh
   rw [bv4 (f:=aof) hT0.sl.1 hT1.sl.1 h5 h2 h4]
   rfl
abbrev sLev:Srt:=.sl [.sl sRun]
def T6:List (FuncId×Fsp):=[(23,S23),(27,S27)]
def lp8:Lp:=⟨[(.slot 5,.int .i64)],[0,1,4],[0],fun F H k=>[.ap .le [zI,.var k],.ap .le [.var k,.ap .len [.var 0]],.ap .not [.ap (.usr 13) [.var 0,.var 1,.var k]]],fun F H k=>.ap (.sub .i64) [.ap .len [.var 0],.var k]⟩
def S8:Fsp:=⟨[(false,[sLev]),(false,[.int .i64])],[],[(false,[.bool])],[([],[[.ap (.usr 12) [.var 0,.var 1]]])],true⟩
def r8_v:List VC:=[([(.ap .not [(.ap .lt [(I 8),(.ap .len [(V 0)])])]),(.ap (.typ (.sl [(.sl [(.int .i64),(.int .i64),(.int .i64),(.sl [(.int .u8)]),(.sl [(.int .u8)])])])) [(V 0)]),(.ap .le [LoI,(V 1)]),(.ap .le [(V 1),HiI])],(.ap .not [(.ap (.usr 13) [(V 0),(V 1),(I 0)])])),
 ([(.ap .not [(.ap (.usr 0) [(.ap (.cell 0) [(V 0),(V 2)]),(V 1)])]),(.ap .lt [(V 2),(.ap .len [(V 0)])]),(.ap .le [(I 0),(V 2)]),(.ap .le [(V 2),(.ap .len [(V 0)])]),(.ap .not [(.ap (.usr 13) [(V 0),(V 1),(V 2)])]),(.ap .not [(.ap .lt [(I 8),(.ap .len [(V 0)])])]),(.ap (.typ (.sl [(.sl [(.int .i64),(.int .i64),(.int .i64),(.sl [(.int .u8)]),(.sl [(.int .u8)])])])) [(V 0)]),(.ap .le [LoI,(V 1)]),(.ap .le [(V 1),HiI])],(.ap .not [(.ap (.usr 13) [(V 0),(V 1),(.ap (.add .i64) [(V 2),(I 1)])])]))]
def r8_o:List (List X×List (List X)):=[([(.ap .lt [(I 8),(.ap .len [(V 0)])]),(.ap (.typ (.sl [(.sl [(.int .i64),(.int .i64),(.int .i64),(.sl [(.int .u8)]),(.sl [(.int .u8)])])])) [(V 0)]),(.ap .le [LoI,(V 1)]),(.ap .le [(V 1),HiI])],[[(.lit (.bool true))]]),
 ([(.ap (.usr 0) [(.ap (.cell 0) [(V 0),(V 2)]),(V 1)]),(.ap .lt [(V 2),(.ap .len [(V 0)])]),(.ap .le [(I 0),(V 2)]),(.ap .le [(V 2),(.ap .len [(V 0)])]),(.ap .not [(.ap (.usr 13) [(V 0),(V 1),(V 2)])]),(.ap .not [(.ap .lt [(I 8),(.ap .len [(V 0)])])]),(.ap (.typ (.sl [(.sl [(.int .i64),(.int .i64),(.int .i64),(.sl [(.int .u8)]),(.sl [(.int .u8)])])])) [(V 0)]),(.ap .le [LoI,(V 1)]),(.ap .le [(V 1),HiI])],[[(.lit (.bool true))]]),
 ([(.ap .not [(.ap .lt [(V 2),(.ap .len [(V 0)])])]),(.ap .le [(I 0),(V 2)]),(.ap .le [(V 2),(.ap .len [(V 0)])]),(.ap .not [(.ap (.usr 13) [(V 0),(V 1),(V 2)])]),(.ap .not [(.ap .lt [(I 8),(.ap .len [(V 0)])])]),(.ap (.typ (.sl [(.sl [(.int .i64),(.int .i64),(.int .i64),(.sl [(.int .u8)]),(.sl [(.int .u8)])])])) [(V 0)]),(.ap .le [LoI,(V 1)]),(.ap .le [(V 1),HiI])],[[(.lit (.bool false))]])]
theorem b1e:runS Try.prog (acr (tab T6)) 10 4 ⟨aa0 [(4,lp8)],hintA []⟩ Try.f8 (aau Try.f8) S8=some (r8_v,r8_o):=by kernel_rfl
def lp9:Lp:=⟨[(.slot 3,.own true [.sl sRun]),(.slot 4,.int .i64)],[0,2],[],fun F H k=>[.ap .le [zI,.var (k+2)],.ap .le [.var (k+2),.ap .len [.var 0]],.ap .le [.var k,.var (k+2)],.ap .le [.var (k+2),.var k],.ap .same [.ap (.mk true) [.var (k+1)],.ap (.usr 11) [.var 0,.var (k+2)]]],fun F H k=>.ap (.sub .i64) [.ap .len [.var 0],.var (k+2)]⟩
def as9:Fm→HP→List X:=fun F H=>[.ap .le [.ap .len [.ap (.cell 0) [.var 0,sx F 4]],.lit (.int .i64 40)],.ap .not [.ap (.usr 0) [.ap (.cell 0) [.var 0,sx F 4],.lit (.int .i64 40)]]]
def S9:Fsp:=⟨[(false,[sLev])],[.ap .le [.ap .len [.var 0],.lit (.int .i64 8)],.ap .not [.ap (.usr 12) [.var 0,.lit (.int .i64 40)]]],[(false,[sLev])],[([],[[.ap (.usr 10) [.var 0]]])],true⟩
def r9_v:List VC:=[([(.ap (.typ (.sl [(.sl [(.int .i64),(.int .i64),(.int .i64),(.sl [(.int .u8)]),(.sl [(.int .u8)])])])) [(V 0)]),(.ap .le [(.ap .len [(V 0)]),(I 8)]),(.ap .not [(.ap (.usr 12) [(V 0),(I 40)])])],(.ap .same [(.ap (.mk true) [(.ap (.nil true) [])]),(.ap (.usr 11) [(V 0),(I 0)])])),
 ([(.ap .lt [(V 3),(.ap .len [(V 0)])]),(.ap .le [(I 0),(V 3)]),(.ap .le [(V 3),(.ap .len [(V 0)])]),(.ap .le [(V 1),(V 3)]),(.ap .le [(V 3),(V 1)]),(.ap .same [(.ap (.mk true) [(V 2)]),(.ap (.usr 11) [(V 0),(V 3)])]),(.ap (.typ (.sl [(.sl [(.int .i64),(.int .i64),(.int .i64),(.sl [(.int .u8)]),(.sl [(.int .u8)])])])) [(V 0)]),(.ap .le [(.ap .len [(V 0)]),(I 8)]),(.ap .not [(.ap (.usr 12) [(V 0),(I 40)])])],(.ap .le [(.ap .len [(.ap (.cell 0) [(V 0),(V 3)])]),(I 40)])),
 ([(.ap .lt [(V 3),(.ap .len [(V 0)])]),(.ap .le [(I 0),(V 3)]),(.ap .le [(V 3),(.ap .len [(V 0)])]),(.ap .le [(V 1),(V 3)]),(.ap .le [(V 3),(V 1)]),(.ap .same [(.ap (.mk true) [(V 2)]),(.ap (.usr 11) [(V 0),(V 3)])]),(.ap (.typ (.sl [(.sl [(.int .i64),(.int .i64),(.int .i64),(.sl [(.int .u8)]),(.sl [(.int .u8)])])])) [(V 0)]),(.ap .le [(.ap .len [(V 0)]),(I 8)]),(.ap .not [(.ap (.usr 12) [(V 0),(I 40)])])],(.ap .not [(.ap (.usr 0) [(.ap (.cell 0) [(V 0),(V 3)]),(I 40)])])),
 ([(.ap (.typ (.sl [(.int .i64),(.int .i64),(.int .i64),(.sl [(.int .u8)]),(.sl [(.int .u8)])])) [(.ap (.usr 2) [(.ap (.cell 0) [(V 0),(V 3)])])]),(.ap .le [(.ap .len [(.ap (.cell 0) [(V 0),(V 3)])]),(I 40)]),(.ap .not [(.ap (.usr 0) [(.ap (.cell 0) [(V 0),(V 3)]),(I 40)])]),(.ap .lt [(V 3),(.ap .len [(V 0)])]),(.ap .le [(I 0),(V 3)]),(.ap .le [(V 3),(.ap .len [(V 0)])]),(.ap .le [(V 1),(V 3)]),(.ap .le [(V 3),(V 1)]),(.ap .same [(.ap (.mk true) [(V 2)]),(.ap (.usr 11) [(V 0),(V 3)])]),(.ap (.typ (.sl [(.sl [(.int .i64),(.int .i64),(.int .i64),(.sl [(.int .u8)]),(.sl [(.int .u8)])])])) [(V 0)]),(.ap .le [(.ap .len [(V 0)]),(I 8)]),(.ap .not [(.ap (.usr 12) [(V 0),(I 40)])])],(.ap .same [(.ap (.mk true) [(.ap .cat [(V 2),(.ap .snoc [(.ap (.nil false) []),(.ap (.usr 2) [(.ap (.cell 0) [(V 0),(V 3)])])])])]),(.ap (.usr 11) [(V 0),(.ap (.add .i64) [(V 3),(I 1)])])]))]
def r9_o:List (List X×List (List X)):=[([(.ap .not [(.ap .lt [(V 3),(.ap .len [(V 0)])])]),(.ap .le [(I 0),(V 3)]),(.ap .le [(V 3),(.ap .len [(V 0)])]),(.ap .le [(V 1),(V 3)]),(.ap .le [(V 3),(V 1)]),(.ap .same [(.ap (.mk true) [(V 2)]),(.ap (.usr 11) [(V 0),(V 3)])]),(.ap (.typ (.sl [(.sl [(.int .i64),(.int .i64),(.int .i64),(.sl [(.int .u8)]),(.sl [(.int .u8)])])])) [(V 0)]),(.ap .le [(.ap .len [(V 0)]),(I 8)]),(.ap .not [(.ap (.usr 12) [(V 0),(I 40)])])],[[(.ap (.mk true) [(V 2)])]])]
theorem b1f:runS Try.prog (acr (tab T6)) 10 4 ⟨aa0 [(3,lp9)],hintA [(5,as9)]⟩ Try.f9 (aau Try.f9) S9=some (r9_v,r9_o):=by kernel_rfl
theorem us11(a b:CD):@Us.u U 11 [a,b]=mkz ((a.rows.take b.iv.toNat).map fun r=>[aiq (at' r 0)]):=rfl
theorem us12(a b:CD):@Us.u U 12 [a,b]=aan (aa5 a b.iv):=rfl
theorem b1j(a b:CD):((@Us.u U 12 [a,b]).bv=true)=(aa5 a b.iv=true):=rfl
theorem us13(a b c:CD):((@Us.u U 13 [a,b,c]).bv=true)=((a.rows.take c.iv.toNat).any (fun r=>aag (at' r 0) b.iv)=true):=rfl
theorem hT6:ae1 U Try.prog T6:=.cons c23 (.cons c27 .nil)
theorem c8:aah U Try.prog 8 S8:=by
 refine aah.of (P:=Try.prog) (U:=U) (T:=tab T6) (f:=8) (fn:=Try.f8) (fuel:=10) (fk:=4) (hs:=⟨aa0 [(4,lp8)],hintA []⟩) (S:=S8) (v:=r8_v) (outs:=r8_o) mixed hT6 at8 b1e ?_ ?_
 ·refine aai (fun v hh=>?_) (aai (fun v hh=>?_) (aa7 _))
  all_goals simp only [wA,wB,us13,us0] at hh ⊢
  ·simp
  ·obtain⟨h1,h2,h3,_,h4,h5,hT,_⟩:=hh
   have:=any_succ (f:=fun r=>aag (at' r 0) (v 1).iv) h3 h2 (by simpa using h4) (Bool.eq_false_iff.2 h1)
   rw [this]
   simp
 ·intro o ho σ hU hh
  obtain⟨v⟩:=σ
  cases hU
  simp only [r8_o,Mn,List.not_mem_nil,or_false] at ho
  rcases ho with rfl | rfl | rfl
  all_goals
   refine⟨_,Ms ..,by simp only [wA,wB],?_⟩
   simp only [wA,wB,us13,us0] at hh
   simp only [List.map_cons,List.map_nil,wA,wB,us12]
  ·obtain⟨h1,_⟩:=hh
   have:aa5 (v 0) (v 1).iv=true:=by
    unfold aa5
    rw [Bool.or_eq_true,Dt]
    left;omega
   rw [this]
   rfl
  ·obtain⟨h1,h2,h3,_⟩:=hh
   have:aa5 (v 0) (v 1).iv=true:=by
    rw [aa5,a9d (f:=fun r=>aag (at' r 0) (v 1).iv) h3 h2 h1,Bool.or_true]
   rw [this]
   rfl
  ·obtain⟨h2,h3,_,h4,h5,hT,_⟩:=hh
   have:aa5 (v 0) (v 1).iv=false:=by
    rw [aa5,bfi (f:=fun r=>aag (at' r 0) (v 1).iv) hT.sl.1 h2 (Bool.eq_false_iff.2 h4),Bool.or_false,decide_eq_false_iff_not]
    omega
   rw [this]
   rfl
theorem ax7{l:CD}{k i:Int}(h:¬ aa5 l k=true)(hl:l.len=l.rows.length)(h0:0≤i)(hi:i<l.len):¬ aag (l.cell i 0) k=true:=by
 have hlt:i.toNat<l.rows.length:=by omega
 unfold aa5 at h
 simp only [Bool.or_eq_true,Dt,not_or,List.any_eq_true,not_exists,not_and] at h
 have:=h.2 _ (List.getElem_mem hlt)
 unfold CD.cell
 rw [show l.rows.getD i.toNat []=l.rows[i.toNat] by rw [Gd,Gl hlt];rfl]
 exact this
theorem a6g{l:CD}{k:Int}(h:¬ aag l k=true):(l.len:Int)≤k:=by
 unfold aag at h
 simp only [Bool.or_eq_true,Dt,not_or] at h
 omega
theorem c9:aah U Try.prog 9 S9:=by
 refine aah.of (P:=Try.prog) (U:=U) (T:=tab T6) (f:=9) (fn:=Try.f9) (fuel:=10) (fk:=4) (hs:=⟨aa0 [(3,lp9)],hintA [(5,as9)]⟩) (S:=S9) (v:=r9_v) (outs:=r9_o) mixed hT6 at9 b1f ?_ ?_
 ·refine aai (fun v hh=>?_) (aai (fun v hh=>?_) (aai (fun v hh=>?_) (aai (fun v hh=>?_) (aa7 _))))
  all_goals simp only [wA,wB,us11,b1j,us0] at hh ⊢
  ·rw [av9];rfl
  ·obtain⟨h1,h2,h3,_,_,h4,hT,h5,h6,_⟩:=hh
   exact a6g (ax7 h6 hT.sl.1 h2 h1)
  ·obtain⟨h1,h2,h3,_,_,h4,hT,h5,h6,_⟩:=hh
   exact ax7 h6 hT.sl.1 h2 h1
  ·obtain⟨_,_,_,h1,h2,h3,_,_,h4,hT,h5,h6,_⟩:=hh
   rw [av9] at h4 ⊢
   rw [apq hT.sl.1 h2 h1,List.map_append,← h4]
   rfl
 ·intro o ho σ hU hh
  obtain⟨v⟩:=σ
  cases hU
  simp only [r9_o,Mn,List.not_mem_nil,or_false] at ho
  subst ho
  refine⟨_,Ms ..,by simp only [wA,wB],?_⟩
  simp only [wA,wB,us11] at hh
  simp only [List.map_cons,List.map_nil,wA,wB]
  obtain⟨h1,h2,h3,_,_,h4,hT,h5,h6,_⟩:=hh
  rw [apo hT.sl.1 h1] at h4
  rw [h4]
  rfl
theorem us20(a b:CD):@Us.u U 20 [a,b]=vInt .i64 (Lib.compareBytes (byts a) (byts b)):=rfl
theorem c100:aah U Try.prog 100 (aml 20):=a5n us20 Try.func100 (by kernel_rfl) (by kernel_rfl) (by kernel_rfl) (by kernel_rfl)
def T7:List (FuncId×Fsp):=[(100,aml 20)]
def byp:List VC:=[]
def bti:List (List X×List (List X)):=[([(.ap .le [LoI,(.ap (.usr 20) [(V 0),(V 1)])]),(.ap .le [(.ap (.usr 20) [(V 0),(V 1)]),HiI]),(.ap .le [(I (-1)),(.ap (.usr 20) [(V 0),(V 1)])]),(.ap .le [(.ap (.usr 20) [(V 0),(V 1)]),(I 1)]),(.ap (.typ (.sl [(.int .u8)])) [(V 0)]),(.ap (.typ (.sl [(.int .u8)])) [(V 1)])],[[(.ap (.usr 20) [(V 0),(V 1)])]])]
theorem byo:runS Try.prog (acr (tab T7)) 10 4 ⟨aa0 [],hintA []⟩ Try.f56 (aau Try.f56) (aml 20)=some (byp,bti):=by kernel_rfl
def T8:List (FuncId×Fsp):=[(56,aml 20)]
def S48:Fsp:=⟨[(true,sRun)],[],[(false,[.bool])],[([],[[.ap (.usr 21) [.var 0,.var 1,.var 2,.var 3,.var 4]]])],true⟩
def byk:List VC:=[]
def bte:List (List X×List (List X)):=[([(.ap .le [LoI,(.ap (.usr 20) [(V 3),(V 4)])]),(.ap .le [(.ap (.usr 20) [(V 3),(V 4)]),HiI]),(.ap .le [(I (-1)),(.ap (.usr 20) [(V 3),(V 4)])]),(.ap .le [(.ap (.usr 20) [(V 3),(V 4)]),(I 1)]),(.ap .le [(.ap .len [(V 4)]),(I 32)]),(.ap .le [(I 1),(.ap .len [(V 4)])]),(.ap .le [(.ap .len [(V 3)]),(I 32)]),(.ap .le [(I 1),(.ap .len [(V 3)])]),(.ap .le [(I 1),(V 2)]),(.ap .le [LoI,(V 0)]),(.ap .le [(V 0),HiI]),(.ap .le [LoI,(V 1)]),(.ap .le [(V 1),HiI]),(.ap .le [LoI,(V 2)]),(.ap .le [(V 2),HiI]),(.ap (.typ (.sl [(.int .u8)])) [(V 3)]),(.ap (.typ (.sl [(.int .u8)])) [(V 4)])],[[(.ap .le [(.ap (.usr 20) [(V 3),(V 4)]),(I 0)])]]),
 ([(.ap .not [(.ap .le [(.ap .len [(V 4)]),(I 32)])]),(.ap .le [(I 1),(.ap .len [(V 4)])]),(.ap .le [(.ap .len [(V 3)]),(I 32)]),(.ap .le [(I 1),(.ap .len [(V 3)])]),(.ap .le [(I 1),(V 2)]),(.ap .le [LoI,(V 0)]),(.ap .le [(V 0),HiI]),(.ap .le [LoI,(V 1)]),(.ap .le [(V 1),HiI]),(.ap .le [LoI,(V 2)]),(.ap .le [(V 2),HiI]),(.ap (.typ (.sl [(.int .u8)])) [(V 3)]),(.ap (.typ (.sl [(.int .u8)])) [(V 4)])],[[(.lit (.bool false))]]),
 ([(.ap .not [(.ap .le [(I 1),(.ap .len [(V 4)])])]),(.ap .le [(.ap .len [(V 3)]),(I 32)]),(.ap .le [(I 1),(.ap .len [(V 3)])]),(.ap .le [(I 1),(V 2)]),(.ap .le [LoI,(V 0)]),(.ap .le [(V 0),HiI]),(.ap .le [LoI,(V 1)]),(.ap .le [(V 1),HiI]),(.ap .le [LoI,(V 2)]),(.ap .le [(V 2),HiI]),(.ap (.typ (.sl [(.int .u8)])) [(V 3)]),(.ap (.typ (.sl [(.int .u8)])) [(V 4)])],[[(.lit (.bool false))]]),
 ([(.ap .not [(.ap .le [(.ap .len [(V 3)]),(I 32)])]),(.ap .le [(I 1),(.ap .len [(V 3)])]),(.ap .le [(I 1),(V 2)]),(.ap .le [LoI,(V 0)]),(.ap .le [(V 0),HiI]),(.ap .le [LoI,(V 1)]),(.ap .le [(V 1),HiI]),(.ap .le [LoI,(V 2)]),(.ap .le [(V 2),HiI]),(.ap (.typ (.sl [(.int .u8)])) [(V 3)]),(.ap (.typ (.sl [(.int .u8)])) [(V 4)])],[[(.lit (.bool false))]]),
 ([(.ap .not [(.ap .le [(I 1),(.ap .len [(V 3)])])]),(.ap .le [(I 1),(V 2)]),(.ap .le [LoI,(V 0)]),(.ap .le [(V 0),HiI]),(.ap .le [LoI,(V 1)]),(.ap .le [(V 1),HiI]),(.ap .le [LoI,(V 2)]),(.ap .le [(V 2),HiI]),(.ap (.typ (.sl [(.int .u8)])) [(V 3)]),(.ap (.typ (.sl [(.int .u8)])) [(V 4)])],[[(.lit (.bool false))]]),
 ([(.ap .not [(.ap .le [(I 1),(V 2)])]),(.ap .le [LoI,(V 0)]),(.ap .le [(V 0),HiI]),(.ap .le [LoI,(V 1)]),(.ap .le [(V 1),HiI]),(.ap .le [LoI,(V 2)]),(.ap .le [(V 2),HiI]),(.ap (.typ (.sl [(.int .u8)])) [(V 3)]),(.ap (.typ (.sl [(.int .u8)])) [(V 4)])],[[(.lit (.bool false))]])]
theorem byj:runS Try.prog (acr (tab T8)) 10 8 ⟨aa0 [],hintA []⟩ Try.f48 (aau Try.f48) S48=some (byk,bte):=by kernel_rfl
theorem hT7:ae1 U Try.prog T7:=.cons c100 .nil
theorem c56:aah U Try.prog 56 (aml 20):=by
 refine aah.of (P:=Try.prog) (U:=U) (T:=tab T7) (f:=56) (fn:=Try.f56) (fuel:=10) (fk:=4) (hs:=⟨aa0 [],hintA []⟩) (S:=aml 20) (v:=byp) (outs:=bti) mixed hT7 at56 byo (aa7 _) ?_
 intro o ho σ hU hh
 obtain⟨v⟩:=σ
 cases hU
 simp only [bti,Mn,List.not_mem_nil,or_false] at ho
 subst ho
 refine⟨_,Ms ..,?_,rfl⟩
 intro x hx
 refine hh x ?_
 simp only [Mn,List.not_mem_nil,or_false] at hx ⊢
 rcases hx with rfl | rfl<;>simp
theorem us21(a b c d e:CD):@Us.u U 21 [a,b,c,d,e]=aan (afe [a,b,c,d,e]):=rfl
theorem hT8:ae1 U Try.prog T8:=.cons c56 .nil
theorem c48:aah U Try.prog 48 S48:=by
 refine aah.of (P:=Try.prog) (U:=U) (T:=tab T8) (f:=48) (fn:=Try.f48) (fuel:=10) (fk:=8) (hs:=⟨aa0 [],hintA []⟩) (S:=S48) (v:=byk) (outs:=bte) mixed hT8 at48 byj (aa7 _) ?_
 intro o ho σ hU hh
 obtain⟨v⟩:=σ
 cases hU
 simp only [bte,Mn,List.not_mem_nil,or_false] at ho
 have hm:afe [v 0,v 1,v 2,v 3,v 4]=(decide (1≤(v 2).iv)&&decide (1≤(v 3).len)&&decide ((v 3).len≤32)&&decide (1≤(v 4).len)&&decide ((v 4).len≤32)&&decide (cmpC (v 3) (v 4)≤0)):=rfl
 rcases ho with rfl | rfl | rfl | rfl | rfl | rfl
 all_goals
  refine⟨_,Ms ..,by simp only [wA,wB],?_⟩
  simp only [wA,wB,us20] at hh
  simp only [List.map_cons,List.map_nil,w_l1,w_l0,aao,aav,us21,hm]
 ·obtain⟨_,_,_,_,a1,a2,a3,a4,a5,_⟩:=hh
  simp only [a5,show 1≤(v 3).len by omega,show(v 3).len≤32 by omega,show 1≤(v 4).len by omega,show(v 4).len≤32 by omega,decide_true,Bool.true_and]
  rfl
 all_goals
  have hf:(decide (1≤(v 2).iv)&&decide (1≤(v 3).len)&&decide ((v 3).len≤32)&&decide (1≤(v 4).len)&&decide ((v 4).len≤32)&&decide (cmpC (v 3) (v 4)≤0))=false:=by
   rw [Bool.eq_false_iff]
   simp only [ne_eq,Ba,Dt]
   omega
  rw [hf]
  rfl
def T9:List (FuncId×Fsp):=[(56,aml 20),(48,S48)]
def bxf:Lp:=⟨[(.slot 12,.int .i64)],[0,2,10,11],[0,10],fun F H k=>[.ap .le [zI,.var k],.ap .le [.var k,.ap .len [.var 0]],.ap (.usr 23) [.var 0,.var k]],fun F H k=>.ap (.sub .i64) [.ap .len [.var 0],.var k]⟩
def bxg:Lp:=⟨[(.slot 19,.int .i64)],[0,2,10,11,12,3,4,17,18],[0,10,4,17],fun F H k=>[.ap .le [zI,.var k],.ap .le [.var k,.ap .len [.ap (.cell 0) [.var 0,sx F 12]]],.ap (.usr 24) [.var 0,sx F 12,.var k]],fun F H k=>.ap (.sub .i64) [.ap .len [.ap (.cell 0) [.var 0,sx F 12]],.var k]⟩
def S16:Fsp:=⟨[(false,[sLev])],[],[(false,[.int .i64])],[([],[[.ap (.usr 22) [.var 0]]])],true⟩
def bx4:List VC:=[([(.ap .not [(.ap .lt [(I 4),(.ap .len [(V 0)])])]),(.ap (.typ (.sl [(.sl [(.int .i64),(.int .i64),(.int .i64),(.sl [(.int .u8)]),(.sl [(.int .u8)])])])) [(V 0)])],(.ap (.usr 23) [(V 0),(I 0)])),
 ([(.ap .lt [(V 1),(.ap .len [(V 0)])]),(.ap .le [(I 0),(V 1)]),(.ap .le [(V 1),(.ap .len [(V 0)])]),(.ap (.usr 23) [(V 0),(V 1)]),(.ap .not [(.ap .lt [(I 4),(.ap .len [(V 0)])])]),(.ap (.typ (.sl [(.sl [(.int .i64),(.int .i64),(.int .i64),(.sl [(.int .u8)]),(.sl [(.int .u8)])])])) [(V 0)])],(.ap (.usr 24) [(V 0),(V 1),(I 0)])),
 ([(.ap .not [(.ap .le [(I 0),(.ap (.usr 20) [(.ap (.cell 4) [(.ap (.cell 0) [(V 0),(V 1)]),(.ap (.sub .i64) [(V 2),(I 1)])]),(.ap (.cell 3) [(.ap (.cell 0) [(V 0),(V 1)]),(V 2)])])])]),(.ap .lt [(I 0),(V 2)]),(.ap .lt [(I 0),(V 1)]),(.ap (.usr 21) [(.ap (.cell 0) [(.ap (.cell 0) [(V 0),(V 1)]),(V 2)]),(.ap (.cell 1) [(.ap (.cell 0) [(V 0),(V 1)]),(V 2)]),(.ap (.cell 2) [(.ap (.cell 0) [(V 0),(V 1)]),(V 2)]),(.ap (.cell 3) [(.ap (.cell 0) [(V 0),(V 1)]),(V 2)]),(.ap (.cell 4) [(.ap (.cell 0) [(V 0),(V 1)]),(V 2)])]),(.ap .lt [(V 2),(.ap .len [(.ap (.cell 0) [(V 0),(V 1)])])]),(.ap .le [(I 0),(V 2)]),(.ap .le [(V 2),(.ap .len [(.ap (.cell 0) [(V 0),(V 1)])])]),(.ap (.usr 24) [(V 0),(V 1),(V 2)]),(.ap .lt [(V 1),(.ap .len [(V 0)])]),(.ap .le [(I 0),(V 1)]),(.ap .le [(V 1),(.ap .len [(V 0)])]),(.ap (.usr 23) [(V 0),(V 1)]),(.ap .not [(.ap .lt [(I 4),(.ap .len [(V 0)])])]),(.ap (.typ (.sl [(.sl [(.int .i64),(.int .i64),(.int .i64),(.sl [(.int .u8)]),(.sl [(.int .u8)])])])) [(V 0)])],(.ap (.usr 24) [(V 0),(V 1),(.ap (.add .i64) [(V 2),(I 1)])])),
 ([(.ap .not [(.ap .lt [(I 0),(V 2)])]),(.ap .lt [(I 0),(V 1)]),(.ap (.usr 21) [(.ap (.cell 0) [(.ap (.cell 0) [(V 0),(V 1)]),(V 2)]),(.ap (.cell 1) [(.ap (.cell 0) [(V 0),(V 1)]),(V 2)]),(.ap (.cell 2) [(.ap (.cell 0) [(V 0),(V 1)]),(V 2)]),(.ap (.cell 3) [(.ap (.cell 0) [(V 0),(V 1)]),(V 2)]),(.ap (.cell 4) [(.ap (.cell 0) [(V 0),(V 1)]),(V 2)])]),(.ap .lt [(V 2),(.ap .len [(.ap (.cell 0) [(V 0),(V 1)])])]),(.ap .le [(I 0),(V 2)]),(.ap .le [(V 2),(.ap .len [(.ap (.cell 0) [(V 0),(V 1)])])]),(.ap (.usr 24) [(V 0),(V 1),(V 2)]),(.ap .lt [(V 1),(.ap .len [(V 0)])]),(.ap .le [(I 0),(V 1)]),(.ap .le [(V 1),(.ap .len [(V 0)])]),(.ap (.usr 23) [(V 0),(V 1)]),(.ap .not [(.ap .lt [(I 4),(.ap .len [(V 0)])])]),(.ap (.typ (.sl [(.sl [(.int .i64),(.int .i64),(.int .i64),(.sl [(.int .u8)]),(.sl [(.int .u8)])])])) [(V 0)])],(.ap (.usr 24) [(V 0),(V 1),(.ap (.add .i64) [(V 2),(I 1)])])),
 ([(.ap .not [(.ap .lt [(I 0),(V 1)])]),(.ap (.usr 21) [(.ap (.cell 0) [(.ap (.cell 0) [(V 0),(V 1)]),(V 2)]),(.ap (.cell 1) [(.ap (.cell 0) [(V 0),(V 1)]),(V 2)]),(.ap (.cell 2) [(.ap (.cell 0) [(V 0),(V 1)]),(V 2)]),(.ap (.cell 3) [(.ap (.cell 0) [(V 0),(V 1)]),(V 2)]),(.ap (.cell 4) [(.ap (.cell 0) [(V 0),(V 1)]),(V 2)])]),(.ap .lt [(V 2),(.ap .len [(.ap (.cell 0) [(V 0),(V 1)])])]),(.ap .le [(I 0),(V 2)]),(.ap .le [(V 2),(.ap .len [(.ap (.cell 0) [(V 0),(V 1)])])]),(.ap (.usr 24) [(V 0),(V 1),(V 2)]),(.ap .lt [(V 1),(.ap .len [(V 0)])]),(.ap .le [(I 0),(V 1)]),(.ap .le [(V 1),(.ap .len [(V 0)])]),(.ap (.usr 23) [(V 0),(V 1)]),(.ap .not [(.ap .lt [(I 4),(.ap .len [(V 0)])])]),(.ap (.typ (.sl [(.sl [(.int .i64),(.int .i64),(.int .i64),(.sl [(.int .u8)]),(.sl [(.int .u8)])])])) [(V 0)])],(.ap (.usr 24) [(V 0),(V 1),(.ap (.add .i64) [(V 2),(I 1)])])),
 ([(.ap .not [(.ap .lt [(V 2),(.ap .len [(.ap (.cell 0) [(V 0),(V 1)])])])]),(.ap .le [(I 0),(V 2)]),(.ap .le [(V 2),(.ap .len [(.ap (.cell 0) [(V 0),(V 1)])])]),(.ap (.usr 24) [(V 0),(V 1),(V 2)]),(.ap .lt [(V 1),(.ap .len [(V 0)])]),(.ap .le [(I 0),(V 1)]),(.ap .le [(V 1),(.ap .len [(V 0)])]),(.ap (.usr 23) [(V 0),(V 1)]),(.ap .not [(.ap .lt [(I 4),(.ap .len [(V 0)])])]),(.ap (.typ (.sl [(.sl [(.int .i64),(.int .i64),(.int .i64),(.sl [(.int .u8)]),(.sl [(.int .u8)])])])) [(V 0)])],(.ap (.usr 23) [(V 0),(.ap (.add .i64) [(V 1),(I 1)])]))]
def bs5:List (List X×List (List X)):=[([(.ap .lt [(I 4),(.ap .len [(V 0)])]),(.ap (.typ (.sl [(.sl [(.int .i64),(.int .i64),(.int .i64),(.sl [(.int .u8)]),(.sl [(.int .u8)])])])) [(V 0)])],[[(I 2)]]),
 ([(.ap .not [(.ap (.usr 21) [(.ap (.cell 0) [(.ap (.cell 0) [(V 0),(V 1)]),(V 2)]),(.ap (.cell 1) [(.ap (.cell 0) [(V 0),(V 1)]),(V 2)]),(.ap (.cell 2) [(.ap (.cell 0) [(V 0),(V 1)]),(V 2)]),(.ap (.cell 3) [(.ap (.cell 0) [(V 0),(V 1)]),(V 2)]),(.ap (.cell 4) [(.ap (.cell 0) [(V 0),(V 1)]),(V 2)])])]),(.ap .lt [(V 2),(.ap .len [(.ap (.cell 0) [(V 0),(V 1)])])]),(.ap .le [(I 0),(V 2)]),(.ap .le [(V 2),(.ap .len [(.ap (.cell 0) [(V 0),(V 1)])])]),(.ap (.usr 24) [(V 0),(V 1),(V 2)]),(.ap .lt [(V 1),(.ap .len [(V 0)])]),(.ap .le [(I 0),(V 1)]),(.ap .le [(V 1),(.ap .len [(V 0)])]),(.ap (.usr 23) [(V 0),(V 1)]),(.ap .not [(.ap .lt [(I 4),(.ap .len [(V 0)])])]),(.ap (.typ (.sl [(.sl [(.int .i64),(.int .i64),(.int .i64),(.sl [(.int .u8)]),(.sl [(.int .u8)])])])) [(V 0)])],[[(I 2)]]),
 ([(.ap .le [(I 0),(.ap (.usr 20) [(.ap (.cell 4) [(.ap (.cell 0) [(V 0),(V 1)]),(.ap (.sub .i64) [(V 2),(I 1)])]),(.ap (.cell 3) [(.ap (.cell 0) [(V 0),(V 1)]),(V 2)])])]),(.ap .lt [(I 0),(V 2)]),(.ap .lt [(I 0),(V 1)]),(.ap (.usr 21) [(.ap (.cell 0) [(.ap (.cell 0) [(V 0),(V 1)]),(V 2)]),(.ap (.cell 1) [(.ap (.cell 0) [(V 0),(V 1)]),(V 2)]),(.ap (.cell 2) [(.ap (.cell 0) [(V 0),(V 1)]),(V 2)]),(.ap (.cell 3) [(.ap (.cell 0) [(V 0),(V 1)]),(V 2)]),(.ap (.cell 4) [(.ap (.cell 0) [(V 0),(V 1)]),(V 2)])]),(.ap .lt [(V 2),(.ap .len [(.ap (.cell 0) [(V 0),(V 1)])])]),(.ap .le [(I 0),(V 2)]),(.ap .le [(V 2),(.ap .len [(.ap (.cell 0) [(V 0),(V 1)])])]),(.ap (.usr 24) [(V 0),(V 1),(V 2)]),(.ap .lt [(V 1),(.ap .len [(V 0)])]),(.ap .le [(I 0),(V 1)]),(.ap .le [(V 1),(.ap .len [(V 0)])]),(.ap (.usr 23) [(V 0),(V 1)]),(.ap .not [(.ap .lt [(I 4),(.ap .len [(V 0)])])]),(.ap (.typ (.sl [(.sl [(.int .i64),(.int .i64),(.int .i64),(.sl [(.int .u8)]),(.sl [(.int .u8)])])])) [(V 0)])],[[(I 2)]]),
 ([(.ap .not [(.ap .lt [(V 1),(.ap .len [(V 0)])])]),(.ap .le [(I 0),(V 1)]),(.ap .le [(V 1),(.ap .len [(V 0)])]),(.ap (.usr 23) [(V 0),(V 1)]),(.ap .not [(.ap .lt [(I 4),(.ap .len [(V 0)])])]),(.ap (.typ (.sl [(.sl [(.int .i64),(.int .i64),(.int .i64),(.sl [(.int .u8)]),(.sl [(.int .u8)])])])) [(V 0)])],[[(I 0)]])]
theorem bx3:runS Try.prog (acr (tab T9)) 10 8 ⟨aa0 [(4,bxf),(7,bxg)],hintA []⟩ Try.f16 (aau Try.f16) S16=some (bx4,bs5):=by kernel_rfl
theorem us22(a:CD):@Us.u U 22 [a]=vInt .i64 (if aam a then 0 else 2):=rfl
theorem us23(a b:CD):((@Us.u U 23 [a,b]).bv=true)=((List.range b.iv.toNat).all (a95 a)=true):=rfl
theorem us24(a b c:CD):((@Us.u U 24 [a,b,c]).bv=true)=((List.range c.iv.toNat).all (anc b.iv.toNat (a.cell b.iv 0))=true):=rfl
theorem bzx(a b c d e:CD):((@Us.u U 21 [a,b,c,d,e]).bv=true)=(afe [a,b,c,d,e]=true):=rfl
theorem hT9:ae1 U Try.prog T9:=.cons c56 (.cons c48 .nil)
theorem amo{l:CD}(h:4<(l.len:Int)):aam l=false:=by
 unfold aam
 rw [decide_eq_false (by omega)]
 rfl
theorem afj{l:CD}{n i:Int}(hT:Typ sLev l)(h0:0≤n)(hn:n<l.len)(h1:0≤i)(hi:i<((l.cell n 0).len:Int))(h:anc n.toNat (l.cell n 0) i.toNat=false):aam l=false:=by
 have hl:=(hT.cell (j:=0) h0 hn rfl).sl.1
 have hl0:=hT.sl.1
 rw [Bool.eq_false_iff]
 intro hh
 unfold aam at hh
 rw [Ba,List.all_eq_true] at hh
 have:=hh.2 n.toNat (List.mem_range.2 (by omega))
 unfold a95 at this
 rw [List.all_eq_true] at this
 have e:l.cell (n.toNat:Nat) 0=l.cell n 0:=by rw [Int.toNat_of_nonneg h0]
 rw [e] at this
 have:=this i.toNat (List.mem_range.2 (by omega))
 rw [h] at this
 cases this
theorem c16:aah U Try.prog 16 S16:=by
 refine aah.of (P:=Try.prog) (U:=U) (T:=tab T9) (f:=16) (fn:=Try.f16) (fuel:=10) (fk:=8) (hs:=⟨aa0 [(4,bxf),(7,bxg)],hintA []⟩) (S:=S16) (v:=bx4) (outs:=bs5) mixed hT9 at16 bx3 ?_ ?_
 ·refine aai (fun v hh=>?_) (aai (fun v hh=>?_) (aai (fun v hh=>?_) (aai (fun v hh=>?_) (aai (fun v hh=>?_) (aai (fun v hh=>?_) (aa7 _))))))
  all_goals simp only [wA,wB,us23,us24,bzx,us20] at hh ⊢
  ·rfl
  ·rfl
  ·obtain⟨h1,h2,h3,h4,h5,h6,_,h7,_⟩:=hh
   rw [ab8 h6,h7,al4 h6,h4,Bool.true_and,Bool.true_and,Bool.not_eq_true',Bool.and_eq_false_iff]
   exact .inr (decide_eq_false h1)
  ·obtain⟨h1,h2,h4,h5,h6,_,h7,_⟩:=hh
   rw [ab8 h6,h7,al4 h6,h4,decide_eq_false h1]
   simp
  ·obtain⟨h1,h4,h5,h6,_,h7,_⟩:=hh
   rw [ab8 h6,h7,al4 h6,h4,decide_eq_false (show ¬ 0<(v 1).iv.toNat by omega)]
   simp
  ·obtain⟨h1,h2,_,h3,h4,h5,_,h6,h7,hT,_⟩:=hh
   have hl:=(hT.cell (j:=0) h5 h4 rfl).sl.1
   rw [ab8 h5,h6,Bool.true_and]
   have e:(v 0).cell ((v 1).iv.toNat:Nat) 0=(v 0).cell (v 1).iv 0:=by rw [Int.toNat_of_nonneg h5]
   unfold a95
   rw [e,List.all_eq_true] at *
   intro j hj
   exact h3 j (List.mem_range.2 (by have:=List.mem_range.1 hj;omega))
 ·intro o ho σ hU hh
  obtain⟨v⟩:=σ
  cases hU
  simp only [bs5,Mn,List.not_mem_nil,or_false] at ho
  rcases ho with rfl | rfl | rfl | rfl
  all_goals
   refine⟨_,Ms ..,by simp only [wA,wB],?_⟩
   simp only [wA,wB,us23,us24,bzx,us20] at hh
   simp only [List.map_cons,List.map_nil,wA,wB,us22]
  ·obtain⟨h1,hT,_⟩:=hh
   rw [amo h1]
   rfl
  ·obtain⟨h1,h2,h3,_,h4,h5,h6,_,h7,h8,hT,_⟩:=hh
   rw [afj hT h6 h5 h3 h2 (by rw [al4 h3,Bool.eq_false_iff.2 h1];rfl)]
   rfl
  ·obtain⟨h1,a1,a2,a3,h2,h3,_,h4,h5,h6,_,h7,h8,hT,_⟩:=hh
   rw [afj hT h6 h5 h3 h2 (by
    rw [al4 h3,a3,decide_eq_true a1,decide_eq_true (show 0<(v 1).iv.toNat by omega),decide_eq_true (show 0≤cmpC _ _ from h1)]
    rfl)]
   rfl
  ·obtain⟨h1,h2,_,h3,h4,hT,_⟩:=hh
   have:aam (v 0)=true:=by
    unfold aam
    have hl:=hT.sl.1
    rw [Ba,Dt,List.all_eq_true]
    refine⟨by omega,fun n hn=>?_⟩
    rw [List.all_eq_true] at h3
    exact h3 n (List.mem_range.2 (by have:=List.mem_range.1 hn;omega))
   rw [this]
   rfl
end Go.Proofs.Ytlbbkmcegbeckaa
