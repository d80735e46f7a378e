/-
  Contracts of a seat's functions: bits and bytes of a word, by the program. Conditions: none.
-/
import Derived.Test.YtamhchkknlbanaaDoorBtO
import Derived.Test.YtamhchkknlbanaaDoorBtC
import Derived.Test.YtamhchkknlbanaaDoorBtN
set_option linter.unusedSectionVars false
set_option linter.unusedVariables false
set_option linter.unusedSimpArgs false
set_option linter.all false
namespace Go.Proofs.YtamhchkknlbanaaDoor.Be
open Go.Sx Go.Proofs
noncomputable abbrev Dn(v:Nat→CD)(x:X):CD:=@den (@Sg.mk U v) x
abbrev tP(v:Nat→CD):List UInt8×Int:=ag6 (v 0).iv (v 1).iv (v 2).iv (v 3).iv (v 5).iv (v 6).iv (v 4).bv (v 7).rows (v 8).rows
def Oc(v:Nat→CD)(o:List (List X)):Prop:=[[tx (tP v).1],[vInt .i64 (tP v).2]]=o.map (@denL (@Sg.mk U v))
def OcP(o:List X×List (List X)):Prop:=∀ σ:Sg,σ.toUs=U→@Holds σ o.1→∃ q∈axn.outs,@Holds σ q.1∧q.2.map (@denL σ)=o.2.map (@denL σ)
theorem b1v{o:List X×List (List X)}(h:∀ v,@Holds (@Sg.mk U v) o.1→Oc v o.2):OcP o:=by
 intro σ hU hh
 obtain⟨v⟩:=σ
 cases hU
 refine⟨_,List.mem_cons_self ..,by simp only [aac,aaw],?_⟩
 rw [← h v hh]
 rfl
abbrev oE2:List (List X):=[[.lit (.string (.mk (.mk [])))],[I 2]]
abbrev oE3:List (List X):=[[.lit (.string (.mk (.mk [])))],[I 3]]
abbrev oOk:List (List X):=[[.var 11],[I 0]]
theorem oc_2{v:Nat→CD}(h:tP v=([],2)):Oc v oE2:=by
 unfold Oc
 rw [h]
 rfl
theorem oc_3{v:Nat→CD}(h:tP v=([],3)):Oc v oE3:=by
 unfold Oc
 rw [h]
 rfl
theorem b1w{v:Nat→CD}{t:List UInt8}(h:tP v=(t,0))(ht:v 11=tx t):Oc v oOk:=by
 unfold Oc
 rw [h]
 show [[tx t],[vInt .i64 0]]=[[v 11],[vInt .i64 0]]
 rw [ht]
structure Mk3 (v:Nat→CD) (a b c:X):Prop where
 i:Dn v a=aav ((v 4).bv&&decide ((v 0).iv=7))
 b:(Dn v b).rows=if(v 0).iv=8 then(v 7).rows else []
 e:(Dn v c).rows=if(v 0).iv=10 then(v 8).rows else []
structure Ty9 (v:Nat→CD):Prop where
 t0:Tr v (.ap (.typ sI) [.var 0])
 t1:Tr v (.ap (.typ sI) [.var 1])
 t2:Tr v (.ap (.typ sI) [.var 2])
 t3:Tr v (.ap (.typ sI) [.var 3])
 t4:Tr v (.ap (.typ .bool) [.var 4])
 t5:Tr v (.ap (.typ (.int .u8)) [.var 5])
 t6:Tr v (.ap (.typ sI) [.var 6])
 t7:Tr v (.ap (.typ sYs) [.var 7])
 t8:Tr v (.ap (.typ sOs) [.var 8])
 l5:Tr v (.ap .le [.lit (.int .u8 0),.var 5])
 u5:Tr v (.ap .le [.var 5,.lit (.int .u8 255)])
theorem i_t{v:Nat→CD}(t:Ty9 v)(h:Tr v (.var 4)):Dn v (.ap .eq [.var 0,I 7])=aav ((v 4).bv&&decide ((v 0).iv=7)):=by
 have t0:=t.t0
 simp only [Tr,aay,aa5,aax,aa4,aa3,abr,abf,aam,w_wr,b_lt,b_le,b_eq,aaz,abl,b_or,aa1,aaj,aag,abp,abd,aal,aan,aa2,w_mk,aao,aa9,abo,abj,abg,aa6,aa8,abq,aa0,aau,abe,w_l0,w_l1,aaf,aae,aaw,aac,aad,aak,aai,aaq,aar,aas,aap,abn,abm,aat,abh,w_eq,aco,aci,acs,acy,acz,acr,ahv,ahw,ahx,ahy,ahz,acu,acj,ac0,adl,aa7,abx,acn,adg,adh,adi] at h t0 ⊢
 rw [h,Bool.true_and]
 show aav (eqC (v 0) (vInt .i64 7))=_
 rw [ae0 t0,show eqC (vInt .i64 (v 0).iv) (vInt .i64 7)=decide ((v 0).iv=7) from rfl]
 rfl
theorem i_f{v:Nat→CD}(h:Tr v (.ap .not [.var 4])):Dn v (.lit (.bool false))=aav ((v 4).bv&&decide ((v 0).iv=7)):=by
 simp only [Tr,aay,aa5,aax,aa4,aa3,abr,abf,aam,w_wr,b_lt,b_le,b_eq,aaz,abl,b_or,aa1,aaj,aag,abp,abd,aal,aan,aa2,w_mk,aao,aa9,abo,abj,abg,aa6,aa8,abq,aa0,aau,abe,w_l0,w_l1,aaf,aae,aaw,aac,aad,aak,aai,aaq,aar,aas,aap,abn,abm,aat,abh,w_eq,aco,aci,acs,acy,acz,acr,ahv,ahw,ahx,ahy,ahz,acu,acj,ac0,adl,aa7,abx,acn,adg,adh,adi] at h
 have h:(v 4).bv=false:=by simpa using h
 rw [h]
 rfl
theorem b_t{v:Nat→CD}(t:Ty9 v)(h:Tr v e8X):(Dn v (.var 7)).rows=if(v 0).iv=8 then(v 7).rows else []:=by
 have t0:=t.t0
 simp only [Tr,aay,aa5,aax,aa4,aa3,abr,abf,aam,w_wr,b_lt,b_le,b_eq,aaz,abl,b_or,aa1,aaj,aag,abp,abd,aal,aan,aa2,w_mk,aao,aa9,abo,abj,abg,aa6,aa8,abq,aa0,aau,abe,w_l0,w_l1,aaf,aae,aaw,aac,aad,aak,aai,aaq,aar,aas,aap,abn,abm,aat,abh,w_eq,aco,aci,acs,acy,acz,acr,ahv,ahw,ahx,ahy,ahz,acu,acj,ac0,adl,aa7,abx,acn,adg,adh,adi] at h t0 ⊢
 rw [ae0 t0,ad3] at h
 rw [if_pos h]
theorem b_f{v:Nat→CD}(t:Ty9 v)(h:Tr v (.ap .not [e8X])):(Dn v (.ap (.nil true) [])).rows=if(v 0).iv=8 then(v 7).rows else []:=by
 have t0:=t.t0
 simp only [Tr,aay,aa5,aax,aa4,aa3,abr,abf,aam,w_wr,b_lt,b_le,b_eq,aaz,abl,b_or,aa1,aaj,aag,abp,abd,aal,aan,aa2,w_mk,aao,aa9,abo,abj,abg,aa6,aa8,abq,aa0,aau,abe,w_l0,w_l1,aaf,aae,aaw,aac,aad,aak,aai,aaq,aar,aas,aap,abn,abm,aat,abh,w_eq,aco,aci,acs,acy,acz,acr,ahv,ahw,ahx,ahy,ahz,acu,acj,ac0,adl,aa7,abx,acn,adg,adh,adi] at h t0 ⊢
 rw [ae0 t0,ad3] at h
 rw [if_neg h]
theorem e_t{v:Nat→CD}(t:Ty9 v)(h:Tr v e10X):(Dn v (.var 8)).rows=if(v 0).iv=10 then(v 8).rows else []:=by
 have t0:=t.t0
 simp only [Tr,aay,aa5,aax,aa4,aa3,abr,abf,aam,w_wr,b_lt,b_le,b_eq,aaz,abl,b_or,aa1,aaj,aag,abp,abd,aal,aan,aa2,w_mk,aao,aa9,abo,abj,abg,aa6,aa8,abq,aa0,aau,abe,w_l0,w_l1,aaf,aae,aaw,aac,aad,aak,aai,aaq,aar,aas,aap,abn,abm,aat,abh,w_eq,aco,aci,acs,acy,acz,acr,ahv,ahw,ahx,ahy,ahz,acu,acj,ac0,adl,aa7,abx,acn,adg,adh,adi] at h t0 ⊢
 rw [ae0 t0,ad3] at h
 rw [if_pos h]
theorem e_f{v:Nat→CD}(t:Ty9 v)(h:Tr v (.ap .not [e10X])):(Dn v (.ap (.nil true) [])).rows=if(v 0).iv=10 then(v 8).rows else []:=by
 have t0:=t.t0
 simp only [Tr,aay,aa5,aax,aa4,aa3,abr,abf,aam,w_wr,b_lt,b_le,b_eq,aaz,abl,b_or,aa1,aaj,aag,abp,abd,aal,aan,aa2,w_mk,aao,aa9,abo,abj,abg,aa6,aa8,abq,aa0,aau,abe,w_l0,w_l1,aaf,aae,aaw,aac,aad,aak,aai,aaq,aar,aas,aap,abn,abm,aat,abh,w_eq,aco,aci,acs,acy,acz,acr,ahv,ahw,ahx,ahy,ahz,acu,acj,ac0,adl,aa7,abx,acn,adg,adh,adi] at h t0 ⊢
 rw [ae0 t0,ad3] at h
 rw [if_neg h]
abbrev lB(v:Nat→CD):Bool:=ad9 (v 0).iv (v 1).iv (v 2).iv (v 3).iv (v 5).iv (v 6).iv (v 4).bv (fF (v 0).iv (v 4).bv) (rF (v 0).iv (v 4).bv) (v 7).rows (v 8).rows
theorem w_ne{v:Nat→CD}(h:Tr v fW):(frow (v 0).iv (v 4).bv).1≠[]:=by
 simp only [Tr,aay,aa5,aax,aa4,aa3,abr,abf,aam,w_wr,b_lt,b_le,b_eq,aaz,abl,b_or,aa1,aaj,aag,abp,abd,aal,aan,aa2,w_mk,aao,aa9,abo,abj,abg,aa6,aa8,abq,aa0,aau,abe,w_l0,w_l1,aaf,aae,aaw,aac,aad,aak,aai,aaq,aar,aas,aap,abn,abm,aat,abh,w_eq,aco,aci,acs,acy,acz,acr,ahv,ahw,ahx,ahy,ahz,acu,acj,ac0,adl,aa7,abx,acn,adg,adh,adi] at h
 exact ne_w h
theorem bsy{v:Nat→CD}{a b c:X}(t:Ty9 v)(m:Mk3 v a b c)(hW:Tr v fW):Dn v (smX a b c)=aav (!lB v):=by
 obtain⟨r,hr,h1,h2,h3,_⟩:=row_of (w_ne hW)
 obtain⟨t0,t1,t2,t3,t4,t5,t6,t7,t8,l5,u5⟩:=t
 have m1:=m.i
 have m2:=m.b
 have m3:=m.e
 simp only [Tr,aay,aa5,aax,aa4,aa3,abr,abf,aam,w_wr,b_lt,b_le,b_eq,aaz,abl,b_or,aa1,aaj,aag,abp,abd,aal,aan,aa2,w_mk,aao,aa9,abo,abj,abg,aa6,aa8,abq,aa0,aau,abe,w_l0,w_l1,aaf,aae,aaw,aac,aad,aak,aai,aaq,aar,aas,aap,abn,abm,aat,abh,w_eq,aco,aci,acs,acy,acz,acr,ahv,ahw,ahx,ahy,ahz,acu,acj,ac0,adl,aa7,abx,acn,adg,adh,adi] at t0 t1 t2 t3 t4 t5 t6 l5 u5
 have key:=bmd (who:=(v 1).iv) (n:=(v 2).iv) (a:=(v 3).iv) (m:=(v 5).iv) (o:=(v 6).iv) (is:=(v 4).bv) (x7:=v 7) (x8:=v 8) hr h3 l5 u5 m1 m2 m3
 rw [← ae0 t0,← ae0 t1,← ae0 t2,← ae0 t3,← b0m t5,← ae0 t6,← a8q t4] at key
 show aav (asx _)=_
 unfold lB fF rF
 rw [h1]
 exact congrArg aav key
theorem b2m{v:Nat→CD}{a b c:X}(t:Ty9 v)(m:Mk3 v a b c)(hW:Tr v fW)(h:Tr v (.ap .not [smX a b c])):lB v=true:=by
 have e:=bsy t m hW
 have h:(aav (!(Dn v (smX a b c)).bv)).bv=true:=h
 rw [e] at h
 cases hl:lB v with
 | true=>rfl
 | false=>rw [hl] at h;cases h
theorem bsz{v:Nat→CD}{a b c:X}(t:Ty9 v)(m:Mk3 v a b c)(hW:Tr v fW)(h:Tr v (smX a b c)):lB v=false:=by
 have e:=bsy t m hW
 have h:(Dn v (smX a b c)).bv=true:=h
 rw [e] at h
 cases hl:lB v with
 | false=>rfl
 | true=>rw [hl] at h;cases h
theorem bzf{v:Nat→CD}(h:Tr v (.ap .eq [wX,.lit (.string ⟨⟨[]⟩⟩)])):Oc v oE2:=by
 refine oc_2 (bm6 (btw ?_))
 simp only [Tr,aay,aa5,aax,aa4,aa3,abr,abf,aam,w_wr,b_lt,b_le,b_eq,aaz,abl,b_or,aa1,aaj,aag,abp,abd,aal,aan,aa2,w_mk,aao,aa9,abo,abj,abg,aa6,aa8,abq,aa0,aau,abe,w_l0,w_l1,aaf,aae,aaw,aac,aad,aak,aai,aaq,aar,aas,aap,abn,abm,aat,abh,w_eq,aco,aci,acs,acy,acz,acr,ahv,ahw,ahx,ahy,ahz,acu,acj,ac0,adl,aa7,abx,acn,adg,adh,adi] at h
 exact by simpa using arl.mp h
theorem bi2{v:Nat→CD}(h:Tr v fin):¬ (v 10).iv<((af6 (v 0).iv (v 1).iv (v 2).iv (v 3).iv (v 5).iv (v 6).iv).length:Int):=by
 simp only [Tr,aay,aa5,aax,aa4,aa3,abr,abf,aam,w_wr,b_lt,b_le,b_eq,aaz,abl,b_or,aa1,aaj,aag,abp,abd,aal,aan,aa2,w_mk,aao,aa9,abo,abj,abg,aa6,aa8,abq,aa0,aau,abe,w_l0,w_l1,aaf,aae,aaw,aac,aad,aak,aai,aaq,aar,aas,aap,abn,abm,aat,abh,w_eq,aco,aci,acs,acy,acz,acr,ahv,ahw,ahx,ahy,ahz,acu,acj,ac0,adl,aa7,abx,acn,adg,adh,adi] at h
 rw [← aji]
 exact h
theorem br8{v:Nat→CD}(h:Tr v fi1):(v 10).iv<((af6 (v 0).iv (v 1).iv (v 2).iv (v 3).iv (v 5).iv (v 6).iv).length:Int):=by
 simp only [Tr,aay,aa5,aax,aa4,aa3,abr,abf,aam,w_wr,b_lt,b_le,b_eq,aaz,abl,b_or,aa1,aaj,aag,abp,abd,aal,aan,aa2,w_mk,aao,aa9,abo,abj,abg,aa6,aa8,abq,aa0,aau,abe,w_l0,w_l1,aaf,aae,aaw,aac,aad,aak,aai,aaq,aar,aas,aap,abn,abm,aat,abh,w_eq,aco,aci,acs,acy,acz,acr,ahv,ahw,ahx,ahy,ahz,acu,acj,ac0,adl,aa7,abx,acn,adg,adh,adi] at h
 rw [← aji]
 exact h
theorem o_lo{v:Nat→CD}(hW:Tr v fW)(h0:Tr v fi0)(h1:Tr v fi1)(h:Tr v (.ap .lt [cX,I 0])):Oc v oE2:=by
 have g1:=br8 h1
 simp only [Tr,aay,aa5,aax,aa4,aa3,abr,abf,aam,w_wr,b_lt,b_le,b_eq,aaz,abl,b_or,aa1,aaj,aag,abp,abd,aal,aan,aa2,w_mk,aao,aa9,abo,abj,abg,aa6,aa8,abq,aa0,aau,abe,w_l0,w_l1,aaf,aae,aaw,aac,aad,aak,aai,aaq,aar,aas,aap,abn,abm,aat,abh,w_eq,aco,aci,acs,acy,acz,acr,ahv,ahw,ahx,ahy,ahz,acu,acj,ac0,adl,aa7,abx,acn,adg,adh,adi] at h0 h
 obtain⟨_,hc⟩:=awr h0 g1
 rw [hc] at h
 exact oc_2 (blz (w_ne hW) h0 g1 (a5z h))
theorem o_hi{v:Nat→CD}(hW:Tr v fW)(h0:Tr v fi0)(h1:Tr v fi1)(h:Tr v (.ap .lt [I 1073741824,cX])):Oc v oE2:=by
 have g1:=br8 h1
 simp only [Tr,aay,aa5,aax,aa4,aa3,abr,abf,aam,w_wr,b_lt,b_le,b_eq,aaz,abl,b_or,aa1,aaj,aag,abp,abd,aal,aan,aa2,w_mk,aao,aa9,abo,abj,abg,aa6,aa8,abq,aa0,aau,abe,w_l0,w_l1,aaf,aae,aaw,aac,aad,aak,aai,aaq,aar,aas,aap,abn,abm,aat,abh,w_eq,aco,aci,acs,acy,acz,acr,ahv,ahw,ahx,ahy,ahz,acu,acj,ac0,adl,aa7,abx,acn,adg,adh,adi] at h0 h
 obtain⟨_,hc⟩:=awr h0 g1
 rw [hc] at h
 exact oc_2 (blz (w_ne hW) h0 g1 (a5y h))
theorem bzd{v:Nat→CD}{a b c:X}(hW:Tr v fW)(hf:Tr v fin)(hO:Tr v fO)(t:Ty9 v)(m:Mk3 v a b c)(h:Tr v (.ap .not [smX a b c])):Oc v oE2:=by
 have g1:=bi2 hf
 simp only [Tr,aay,aa5,aax,aa4,aa3,abr,abf,aam,w_wr,b_lt,b_le,b_eq,aaz,abl,b_or,aa1,aaj,aag,abp,abd,aal,aan,aa2,w_mk,aao,aa9,abo,abj,abg,aa6,aa8,abq,aa0,aau,abe,w_l0,w_l1,aaf,aae,aaw,aac,aad,aak,aai,aaq,aar,aas,aap,abn,abm,aat,abh,w_eq,aco,aci,acs,acy,acz,acr,ahv,ahw,ahx,ahy,ahz,acu,acj,ac0,adl,aa7,abx,acn,adg,adh,adi] at hO
 exact oc_2 (bqq (w_ne hW) g1 hO (b2m t m hW h))
theorem bst{v:Nat→CD}(hS:Tr v gS)(hg:Tr v gin)(hle:Tr v (.ap .le [.var 12,.ap .len [.var 8]]))(h0:Tr v gi0)(hT:Tr v gTy):v 11=tx (mkS (ama (wF (v 0).iv (v 4).bv) (nR (v 0).iv (v 1).iv (v 2).iv (v 3).iv (v 5).iv (v 6).iv) (nR (v 0).iv (v 1).iv (v 2).iv (v 3).iv (v 5).iv (v 6).iv).length++(if(v 7).rows.isEmpty=true then [] else 32::hexT (v 7).rows)) (v 8).rows (v 8).rows.length):=by
 simp only [Tr,aay,aa5,aax,aa4,aa3,abr,abf,aam,w_wr,b_lt,b_le,b_eq,aaz,abl,b_or,aa1,aaj,aag,abp,abd,aal,aan,aa2,w_mk,aao,aa9,abo,abj,abg,aa6,aa8,abq,aa0,aau,abe,w_l0,w_l1,aaf,aae,aaw,aac,aad,aak,aai,aaq,aar,aas,aap,abn,abm,aat,abh,w_eq,aco,aci,acs,acy,acz,acr,ahv,ahw,ahx,ahy,ahz,acu,acj,ac0,adl,aa7,abx,acn,adg,adh,adi] at hS hg hle h0 hT
 have hl:=hT.sl.1
 have e:(v 12).iv.toNat=(v 8).rows.length:=by omega
 rw [hS,e]
theorem bze{v:Nat→CD}{a b c:X}(hW:Tr v fW)(hf:Tr v fin)(hO:Tr v fO)(t:Ty9 v)(m:Mk3 v a b c)(h:Tr v (smX a b c))(hS:Tr v gS)(hg:Tr v gin)(hle:Tr v (.ap .le [.var 12,.ap .len [.var 8]]))(h0:Tr v gi0)(hl:Tr v (.ap .lt [I 2200,.ap .slen [.var 11]])):Oc v oE3:=by
 have g1:=bi2 hf
 have e:=bst hS hg hle h0 t.t8
 simp only [Tr,aay,aa5,aax,aa4,aa3,abr,abf,aam,w_wr,b_lt,b_le,b_eq,aaz,abl,b_or,aa1,aaj,aag,abp,abd,aal,aan,aa2,w_mk,aao,aa9,abo,abj,abg,aa6,aa8,abq,aa0,aau,abe,w_l0,w_l1,aaf,aae,aaw,aac,aad,aak,aai,aaq,aar,aas,aap,abn,abm,aat,abh,w_eq,aco,aci,acs,acy,acz,acr,ahv,ahw,ahx,ahy,ahz,acu,acj,ac0,adl,aa7,abx,acn,adg,adh,adi] at hO hl
 rw [e,a3l] at hl
 exact oc_3 (bqr (w_ne hW) g1 hO (bsz t m hW h) rfl hl)
theorem o_ok{v:Nat→CD}{a b c:X}(hW:Tr v fW)(hf:Tr v fin)(hO:Tr v fO)(t:Ty9 v)(m:Mk3 v a b c)(h:Tr v (smX a b c))(hS:Tr v gS)(hg:Tr v gin)(hle:Tr v (.ap .le [.var 12,.ap .len [.var 8]]))(h0:Tr v gi0)(hl:Tr v (.ap .not [.ap .lt [I 2200,.ap .slen [.var 11]]])):Oc v oOk:=by
 have g1:=bi2 hf
 have e:=bst hS hg hle h0 t.t8
 simp only [Tr,aay,aa5,aax,aa4,aa3,abr,abf,aam,w_wr,b_lt,b_le,b_eq,aaz,abl,b_or,aa1,aaj,aag,abp,abd,aal,aan,aa2,w_mk,aao,aa9,abo,abj,abg,aa6,aa8,abq,aa0,aau,abe,w_l0,w_l1,aaf,aae,aaw,aac,aad,aak,aai,aaq,aar,aas,aap,abn,abm,aat,abh,w_eq,aco,aci,acs,acy,acz,acr,ahv,ahw,ahx,ahy,ahz,acu,acj,ac0,adl,aa7,abx,acn,adg,adh,adi] at hO hl
 rw [e,a3l] at hl
 exact b1w (b0c (w_ne hW) g1 hO (bsz t m hW h) rfl hl) e
structure Ro where
 hy:List X
 o:List (List X)
 ok:∀ v,AllT v hy→Oc v o
abbrev qA(i:Bool):X:=match i with | true=>.ap .eq [.var 0,I 7] | false=>.lit (.bool false)
abbrev qI(i:Bool):X:=match i with | true=>.var 4 | false=>.ap .not [.var 4]
abbrev qN:X:=.ap (.nil true) []
abbrev qB(b:Bool):X:=match b with | true=>.var 7 | false=>qN
abbrev qE(b:Bool):X:=match b with | true=>.var 8 | false=>qN
abbrev qF(b:Bool)(x:X):X:=match b with | true=>x | false=>.ap .not [x]
abbrev tyX:List X:=[.ap (.typ sI) [.var 0],.ap (.typ sI) [.var 1],.ap (.typ sI) [.var 2],.ap (.typ sI) [.var 3],.ap (.typ .bool) [.var 4],.ap (.typ (.int .u8)) [.var 5],.ap (.typ sI) [.var 6],.ap (.typ sYs) [.var 7],.ap (.typ sOs) [.var 8],.ap .le [.lit (.int .u8 0),.var 5],.ap .le [.var 5,.lit (.int .u8 255)]]
theorem bnc{v:Nat→CD}{r:List X}(h:AllT v (tyX++r)):Ty9 v∧AllT v r:=by
 obtain⟨a,b,c,d,e,f,g,i,j,k,l,h⟩:=h
 exact⟨⟨a,b,c,d,e,f,g,i,j,k,l⟩,h⟩
theorem bj7{v:Nat→CD}(t:Ty9 v){i b e:Bool}(h1:Tr v (qI i))(h2:Tr v (qF b e8X))(h3:Tr v (qF e e10X)):Mk3 v (qA i) (qB b) (qE e):=by
 refine⟨?_,?_,?_⟩
 ·cases i
  ·exact i_f h1
  ·exact i_t t h1
 ·cases b
  ·exact b_f t h2
  ·exact b_t t h2
 ·cases e
  ·exact e_f t h3
  ·exact e_t t h3
abbrev qM(i b e:Bool):X:=smX (qA i) (qB b) (qE e)
noncomputable def qL(i b e:Bool):Ro:=⟨tyX++[fW,fin,fO,qI i,qF b e8X,qF e e10X,.ap .not [qM i b e]],oE2,fun v h=>by
 obtain⟨t,a,c,d,f,g,k,l,_⟩:=bnc h
 exact bzd a c d t (bj7 t f g k) l⟩
abbrev qG(i b e:Bool)(x:X):List X:=tyX++[fW,fin,fO,qI i,qF b e8X,qF e e10X,qM i b e,gS,gin,.ap .le [.var 12,.ap .len [.var 8]],gi0,x]
noncomputable def qO3(i b e:Bool):Ro:=⟨qG i b e (.ap .lt [I 2200,.ap .slen [.var 11]]),oE3,fun v h=>by
 obtain⟨t,a,c,d,f,g,k,l,m,n,p,q,r,_⟩:=bnc h
 exact bze a c d t (bj7 t f g k) l m n p q r⟩
noncomputable def qOk(i b e:Bool):Ro:=⟨qG i b e (.ap .not [.ap .lt [I 2200,.ap .slen [.var 11]]]),oOk,fun v h=>by
 obtain⟨t,a,c,d,f,g,k,l,m,n,p,q,r,_⟩:=bnc h
 exact o_ok a c d t (bj7 t f g k) l m n p q r⟩
noncomputable def qR:List Ro:=⟨[.ap .eq [wX,.lit (.string ⟨⟨[]⟩⟩)]],oE2,fun _ h=>bzf h.1⟩::⟨[fW,fi0,fi1,.ap .lt [cX,I 0]],oE2,fun _ ⟨a,b,c,d,_⟩=>o_lo a b c d⟩::⟨[fW,fi0,fi1,.ap .lt [I 1073741824,cX]],oE2,fun _ ⟨a,b,c,d,_⟩=>o_hi a b c d⟩ ::
 [false,true].flatMap fun i=>[false,true].flatMap fun b=>[false,true].flatMap fun e=>[qL i b e,qO3 i b e,qOk i b e]
theorem bj6{a b:List (List X)}(h:(a.length==b.length&&((a.zip b).all fun p=>p.1.length==p.2.length&&((p.1.zip p.2).all fun q=>memX q.1 [q.2])))=true):a=b:=by
 have l1:∀ {x y:List X},x.length=y.length→((x.zip y).all fun q=>memX q.1 [q.2])=true→x=y:=by
  intro x
  induction x with
  | nil=>intro y hl _;cases y with | nil=>rfl | cons _ _=>cases hl
  | cons c r ih =>
   intro y hl h
   cases y with
   | nil=>cases hl
   | cons d s =>
    rw [List.zip_cons_cons,List.all_cons,Bool.and_eq_true] at h
    rw [show c=d from List.mem_singleton.1 (@agy (@Sg.mk U fun _=>default) _ _ h.1),ih (Nat.succ.inj hl) h.2]
 rw [Bool.and_eq_true,beq_iff_eq] at h
 obtain⟨hl,h⟩:=h
 induction a generalizing b with
 | nil=>cases b with | nil=>rfl | cons _ _=>cases hl
 | cons c r ih =>
  cases b with
  | nil=>cases hl
  | cons d s =>
   rw [List.zip_cons_cons,List.all_cons,Bool.and_eq_true,Bool.and_eq_true,beq_iff_eq] at h
   rw [show c=d from l1 h.1.1 h.1.2,ih (Nat.succ.inj hl) h.2]
theorem bkw{l:List (List X×List (List X))}{R:List Ro}(h:(l.all fun z=>R.any fun r=>(r.o.length==z.2.length&&((r.o.zip z.2).all fun p=>p.1.length==p.2.length&&((p.1.zip p.2).all fun q=>memX q.1 [q.2])))&&r.hy.all fun x=>memX x z.1)=true):∀ z∈l,OcP z:=by
 intro z hz
 refine b1v fun v hh=>?_
 obtain⟨r,_,hr⟩:=List.any_eq_true.1 (List.all_eq_true.1 h z hz)
 rw [Bool.and_eq_true] at hr
 rw [← bj6 hr.1]
 exact r.ok v (a9v hh hr.2)
set_option maxRecDepth 100000 in
theorem bvd:∀ o∈bvc,OcP o:=bkw (R:=qR) (by kernel_rfl)
set_option maxRecDepth 100000 in
theorem b2o:abk U Tryd.prog 13 axn:=abk.of (P:=Tryd.prog) (U:=U) (T:=(tab T13)) (f:=13) (fn:=Tryd.f13) (fuel:=10) (fk:=20) (hs:=hs13) (S:=axn) (v:=bve) (outs:=bvc) mixed hT13 at13 bzr bvf bvd
end Go.Proofs.YtamhchkknlbanaaDoor.Be

namespace Go.Proofs.YtamhchkknlbanaaDoor.Be
open Go.Sx Go.Proofs
set_option maxHeartbeats 8000000 in
set_option maxRecDepth 100000 in
theorem bva:∀ o∈bqn,∀ σ:Sg,σ.toUs=U→@Holds σ o.1→∃ q∈axn.outs,@Holds σ q.1∧q.2.map (@denL σ)=o.2.map (@denL σ):=by
  intro o ho σ hU hh
  obtain⟨v⟩:=σ
  cases hU
  simp only [bqn,List.mem_cons,List.not_mem_nil,or_false] at ho
  repeat' (first | (rcases ho with rfl | ho) | subst ho)
  all_goals
      refine⟨_,List.mem_cons_self ..,by simp only [aac,aaw],?_⟩
      simp only [aay,aa5,aax,aa4,aa3,aam,b_lt,b_le,b_eq,aaz,aa1,aaj,abd,aal,aan,aa2,w_mk,aao,aa9,aa6,aa8,aa0,w_l0,w_l1,aaf,aae,aaw,aac,aad,aak,aai,w_eq,aco,aci,a4f,a4g,a4h,a4i,a4j,a4k,a4l,a4m,ax3,acj,a4n,mnX,mxX,avq,abz,avu,ahl,aew,afn,arz,aei,agn,aev,ael,af8,aik,ae5,ac2,ads,adt,af9,ag8,ag9,aha,ahb,ahc,aea,ae6,ae7,ae8,ae9,afa,afb,afc,afd,aem,aen,afe,ai3,ab7,aga,agb,aeb,adz,ai4,aec,aqa,aff,agp,arw,arx,ap8,ap9,a2i,a2j,ahd,ahe,ahf,ahg,a2k,ani,aqb,ahh,aqc,aqd,a2l,a2m,a2n,a2o,aqe,aqf,aqg,anj,adw,a2p,amg,amh,ami,alb,ad4,amj,ay5,ay6,ay7,a18,apq,apr,aps,a19,anc,apt,apu,avr,a2a,apv,ane,a2b,apw,apx,anf,a2c,aiz,ai0,ai1,aij,ac1,ai2,apy,apz,avs,a2d,ap0,ap1,avt,a2e,ang,ap2,anh,a2f,ap3,ap4,a2g,ap5,ap6,ap7,a2h,aa7,abx,acn] at hh
      simp only [List.map_cons,List.map_nil,aay,aa5,aax,aa4,aa3,aam,b_lt,b_le,b_eq,aaz,aa1,aaj,abd,aal,aan,aa2,w_mk,aao,aa9,aa6,aa8,aa0,w_l0,w_l1,aaf,aae,aaw,aac,aad,aak,aai,w_eq,aco,aci,a4f,a4g,a4h,a4i,a4j,a4k,a4l,a4m,ax3,acj,a4n,mnX,mxX,aa7,abx,acn]
      have hD:aox [v 0,v 1,v 2,v 3,v 4,v 5,v 6,v 7,v 8]=ag6 (v 0).iv (v 1).iv (v 2).iv (v 3).iv (v 5).iv (v 6).iv (v 4).bv (v 7).rows (v 8).rows:=rfl
      rw [bbk,bbl,hD]
      generalize hS:(afj (v 0).iv (v 4).bv).isSome=S at hh
      first
      | (refine bzh ?_
         rw [hS]
         (simp only [hh,Bool.false_eq_true,not_false_eq_true];done))
      | (have hS1:S=true:=by simp only [hh]
         rw [hS1] at hS
         have hs:=a95 (v 0).iv (v 4).bv
         unfold fF at hs
         generalize hR:frow (v 0).iv (v 4).bv=R at hh hs ⊢
         have hb:(R.2.2.2.1.take (v 9).iv.toNat).all (fun c=>inR (selV (v 1).iv (v 2).iv (v 3).iv (v 5).iv (v 6).iv c))=true:=by simp only [hh]
         have h0:0≤(v 9).iv:=by simp only [hh]
         first
         | (have hi:(v 9).iv<(R.2.2.2.1.length:Int):=by
              rw [← hs]
              (simp only [hh];done)
            simp only [br7 h0 hi,ad3] at hh
            first
            | (refine ak9 hR hS h0 hi (bq1 ?_) (a5z ?_)<;>(simp only [hh];done))
            | (refine ak9 hR hS h0 hi (bq1 ?_) (a5y ?_)<;>(simp only [hh];done))
            | (refine ak9 hR hS h0 hi (bqz ?_) (a5z ?_)<;>(simp only [hh];done))
            | (refine ak9 hR hS h0 hi (bqz ?_) (a5y ?_)<;>(simp only [hh];done))
            | (refine ak9 hR hS h0 hi (bqy ?_) (a5z ?_)<;>(simp only [hh];done))
            | (refine ak9 hR hS h0 hi (bqy ?_) (a5y ?_)<;>(simp only [hh];done))
            | (refine ak9 hR hS h0 hi (bq0 ?_) (a5z ?_)<;>(simp only [hh];done))
            | (refine ak9 hR hS h0 hi (bq0 ?_) (a5y ?_)<;>(simp only [hh];done)))
         | (have hi:¬ (v 9).iv<(R.2.2.2.1.length:Int):=by
              rw [← hs]
              (simp only [hh,not_false_eq_true];done)
            have hr:CD.sl (false&&(v 16).rows.isEmpty) (v 16).rows=CD.sl false ((acp R.1 R.2.2.2.1 (v 1).iv (v 2).iv (v 3).iv (v 5).iv (v 6).iv (v 9).iv.toNat).map afz):=by simp only [hh]
            have e10:v 10=vInt .i64 (leftV R.2.2.2.1 119 (v 1).iv):=by rw [← a0x hi];simp only [hh]
            have e11:v 11=vInt .i64 (leftV R.2.2.2.1 110 (v 2).iv):=by rw [← a0x hi];simp only [hh]
            have e12:v 12=vInt .i64 (leftV R.2.2.2.1 97 (v 3).iv):=by rw [← a0x hi];simp only [hh]
            have e13:v 13=vInt .i64 (leftV R.2.2.2.1 111 (v 6).iv):=by rw [← a0x hi];simp only [hh]
            have e14:v 14=vInt .u8 (leftV R.2.2.2.1 109 (v 5).iv):=by rw [← a0x hi];simp only [hh]
            have hA0:Typ sI (v 0):=by simp only [hh]
            have hY7:Typ sYs (v 7):=by simp only [hh]
            have hY8:Typ sOs (v 8):=by simp only [hh]
            have e0:v 0=vInt .i64 (v 0).iv:=ae0 hA0
            generalize (v 0).iv=k0 at *
            simp only [e0,e10,e11,e12,e13,e14,ad3,au2 hY7,au2 hY8] at hh
            have hJ1:Lib.join (List.map asw ((v 16).rows++([]++[[tx (hexT (v 7).rows)]]))) (by' (CD.v (.string ⟨⟨[32]⟩⟩)))=Lib.join (acp R.1 R.2.2.2.1 (v 1).iv (v 2).iv (v 3).iv (v 5).iv (v 6).iv R.2.2.2.1.length++[hexT (v 7).rows]) [32]:=join_eq hr hi [hexT (v 7).rows]
            have hJ2:Lib.join (List.map asw ((v 16).rows++([]++[[tx (markT (v 8).rows)]]))) (by' (CD.v (.string ⟨⟨[32]⟩⟩)))=Lib.join (acp R.1 R.2.2.2.1 (v 1).iv (v 2).iv (v 3).iv (v 5).iv (v 6).iv R.2.2.2.1.length++[markT (v 8).rows]) [32]:=join_eq hr hi [markT (v 8).rows]
            have hJ3:Lib.join (List.map asw (v 16).rows) (by' (CD.v (.string ⟨⟨[32]⟩⟩)))=Lib.join (acp R.1 R.2.2.2.1 (v 1).iv (v 2).iv (v 3).iv (v 5).iv (v 6).iv R.2.2.2.1.length++[]) [32]:=by
              have:=join_eq hr hi []
              rwa [List.map_nil,List.append_nil] at this
            clear hr e0 e10 e11 e12 e13 e14 h0 hs hA0 hY7 hY8
            first
            | (refine bqb hR hS hb hi ?_
               unfold ad9
               simp [hh]
               done)
            | (simp only [hJ1,hJ2,hJ3] at hh ⊢
               clear hJ1 hJ2 hJ3
               have hl:ad9 k0 (v 1).iv (v 2).iv (v 3).iv (v 5).iv (v 6).iv (v 4).bv R.2.2.2.1 R.2.2.2.2 (v 7).rows (v 8).rows=false:=by
                 unfold ad9
                 simp [hh]
               first
               | (refine bzi hR hS hb hi hl ?_ ?_
                  · first | (refine bev ?_ ?_<;>(simp only [hh,Bool.false_eq_true,Bool.true_eq_false,not_false_eq_true,reduceCtorEq];done)) | (refine a3s ?_ ?_<;>(simp only [hh,Bool.false_eq_true,Bool.true_eq_false,not_false_eq_true,reduceCtorEq];done)) | (refine bew ?_ ?_<;>(simp only [hh,Bool.false_eq_true,Bool.true_eq_false,not_false_eq_true,reduceCtorEq];done)) | (refine a3t ?_ ?_<;>(simp only [hh,Bool.false_eq_true,Bool.true_eq_false,not_false_eq_true,reduceCtorEq];done)) | (refine bex ?_ ?_<;>(simp only [hh,Bool.false_eq_true,Bool.true_eq_false,not_false_eq_true,reduceCtorEq];done))
                  · (simp only [hh,not_false_eq_true];done))
               | (refine a1v hR hS hb hi hl (T:=[hexT (v 7).rows]) ?_ ?_
                  · first | (refine bev ?_ ?_<;>(simp only [hh,Bool.false_eq_true,Bool.true_eq_false,not_false_eq_true,reduceCtorEq];done)) | (refine a3s ?_ ?_<;>(simp only [hh,Bool.false_eq_true,Bool.true_eq_false,not_false_eq_true,reduceCtorEq];done)) | (refine bew ?_ ?_<;>(simp only [hh,Bool.false_eq_true,Bool.true_eq_false,not_false_eq_true,reduceCtorEq];done)) | (refine a3t ?_ ?_<;>(simp only [hh,Bool.false_eq_true,Bool.true_eq_false,not_false_eq_true,reduceCtorEq];done)) | (refine bex ?_ ?_<;>(simp only [hh,Bool.false_eq_true,Bool.true_eq_false,not_false_eq_true,reduceCtorEq];done))
                  · (simp only [hh];done))
               | (refine a1v hR hS hb hi hl (T:=[markT (v 8).rows]) ?_ ?_
                  · first | (refine bev ?_ ?_<;>(simp only [hh,Bool.false_eq_true,Bool.true_eq_false,not_false_eq_true,reduceCtorEq];done)) | (refine a3s ?_ ?_<;>(simp only [hh,Bool.false_eq_true,Bool.true_eq_false,not_false_eq_true,reduceCtorEq];done)) | (refine bew ?_ ?_<;>(simp only [hh,Bool.false_eq_true,Bool.true_eq_false,not_false_eq_true,reduceCtorEq];done)) | (refine a3t ?_ ?_<;>(simp only [hh,Bool.false_eq_true,Bool.true_eq_false,not_false_eq_true,reduceCtorEq];done)) | (refine bex ?_ ?_<;>(simp only [hh,Bool.false_eq_true,Bool.true_eq_false,not_false_eq_true,reduceCtorEq];done))
                  · (simp only [hh];done))
               | (refine a1v hR hS hb hi hl (T:=[]) ?_ ?_
                  · first | (refine bev ?_ ?_<;>(simp only [hh,Bool.false_eq_true,Bool.true_eq_false,not_false_eq_true,reduceCtorEq];done)) | (refine a3s ?_ ?_<;>(simp only [hh,Bool.false_eq_true,Bool.true_eq_false,not_false_eq_true,reduceCtorEq];done)) | (refine bew ?_ ?_<;>(simp only [hh,Bool.false_eq_true,Bool.true_eq_false,not_false_eq_true,reduceCtorEq];done)) | (refine a3t ?_ ?_<;>(simp only [hh,Bool.false_eq_true,Bool.true_eq_false,not_false_eq_true,reduceCtorEq];done)) | (refine bex ?_ ?_<;>(simp only [hh,Bool.false_eq_true,Bool.true_eq_false,not_false_eq_true,reduceCtorEq];done))
                  · (simp only [hh];done)))))
set_option maxRecDepth 100000 in
theorem b2n:abk U Tryd.prog 12 axn:=abk.of (P:=Tryd.prog) (U:=U) (T:=(tab T12)) (f:=12) (fn:=Tryd.f12) (fuel:=10) (fk:=20) (hs:=hs12) (S:=axn) (v:=bqo) (outs:=bqn) mixed hT12 at12 bzq bvb bva
end Go.Proofs.YtamhchkknlbanaaDoor.Be

namespace Go.Proofs.YtamhchkknlbanaaDoor.Be
open Go.Sx Go.Proofs
noncomputable def bod:OraV:=fun t args H=>match t,args with
 | .f g,[.one c,.one (.lit (.func (.func k) a b))]=>match Nat.beq g 41&&(Nat.beq k 42&&(Nat.beq a.size 0&&Nat.beq b.size 0)),toS .str c with
  | true,some (e,_)=>some ([],[(.one (.sv .bool [] (.ap (.usr 254) [e])),H)])
  | _,_=>none
 | _,_=>none
set_option maxRecDepth 100000 in
theorem boe:af0 U Tryd.prog bod:=by
 intro t args H v outs h _
 unfold bod at h
 split at h
 rotate_left
 ·cases h
 rename_i g c k a b
 split at h
 rotate_left
 ·cases h
 rename_i e G hb hs
 cases h
 simp only [Bool.and_eq_true] at hb
 obtain⟨q1,q2,q3,q4⟩:=hb
 have q1:=Nat.eq_of_beq_eq_true q1
 have q2:=Nat.eq_of_beq_eq_true q2
 have q3:a = #[]:=Array.eq_empty_of_size_eq_zero (Nat.eq_of_beq_eq_true q3)
 have q4:b = #[]:=Array.eq_empty_of_size_eq_zero (Nat.eq_of_beq_eq_true q4)
 subst q1 q2 q3 q4
 refine⟨fun o ho=>?_,fun σ hU ρ w us s' hs' hus hH hd hj=>?_⟩
 ·rw [List.mem_singleton.1 ho]
  exact @Sc.refl (@Sg.mk U fun _=>default) H
 ·have hs':s'=callFunc 41 us:=hs'
  subst hs'
  obtain⟨u1,u2,hus',k1,k2⟩:∃ u1 u2,us = #[u1,u2]∧@CRel σ ρ c u1∧u2=.func (.func 42) #[] #[]:=by
   match hl:us.toList,hus with
   | [u1,u2],⟨h1,h2,_⟩=>exact⟨u1,u2,by rw [← Array.toList_inj,hl],h1,h2.1⟩
  subst hus'
  subst k2
  obtain⟨_,hr⟩:=@a0e σ ρ _ _ _ _ _ hs k1
  obtain⟨s,e1,rfl,h3⟩:=hr
  rw [Tryd.call41]
  show Calls Tryd.prog 41 #[.string s,.func (.func 42) #[] #[]] w _
  refine(axq s w).mono ?_
  rintro e' w' ⟨rfl,hb⟩
  have hsim:=Sim.still (@Sim.refl σ _ _ _ hH hd) hb.block hb.size hb.os hb.tape hb.output hd fun b L ⟨i,c,hc⟩ hL=>(@HRel.rel σ _ _ _ hH b i c L hc hL).lt
  refine⟨_,rfl,_,List.mem_singleton.2 rfl,σ,Ext.refl _ _,ρ,⟨fun g hg=>(by cases hg),?_⟩,@Sim.f σ _ _ _ _ _ _ hsim,@Sim.rel σ _ _ _ _ _ _ hsim⟩
  show @RS _ .bool (@Us.u σ.toUs 254 [@den σ e]) _
  rw [hU,e1,a4b,by_v]
  exact⟨_,rfl,rfl⟩
theorem b0g{b:UInt8}(hb:b.toNat≠32):∀ (l:List UInt8) (s:List (List UInt8)×List UInt8),(b∈l∨b∈s.2∨∃ w∈s.1,b∈w)→b∈(l.foldl stp s).2∨∃ w∈(l.foldl stp s).1,b∈w
 | [],s,h=>by
  rcases h with h | h
  ·cases h
  ·exact h
 | c::l,s,h=>by
  refine b0g hb l (stp s c) ?_
  unfold stp
  rcases h with h | h | ⟨w,h1,h2⟩
  ·rcases List.mem_cons.1 h with rfl | h
   ·rw [if_neg hb]
    exact .inr (.inl (by simp))
   ·exact .inl h
  ·split
   ·exact .inr (.inr ⟨s.2,by simp,h⟩)
   ·exact .inr (.inl (List.mem_append_left _ h))
  ·split
   ·exact .inr (.inr ⟨w,List.mem_append_left _ h1,h2⟩)
   ·exact .inr (.inr ⟨w,h1,h2⟩)
theorem b0h{b:UInt8}:∀ (l:List UInt8) (s:List (List UInt8)×List UInt8),(b∈(l.foldl stp s).2∨∃ w∈(l.foldl stp s).1,b∈w)→(b∈l∧b.toNat≠32)∨b∈s.2∨∃ w∈s.1,b∈w
 | [],s,h=>.inr h
 | c::l,s,h=>by
  rcases b0h l (stp s c) h with h | h
  ·exact .inl ⟨List.mem_cons_of_mem _ h.1,h.2⟩
  ·unfold stp at h
   split at h
   ·rcases h with h | ⟨w,h1,h2⟩
    ·cases h
    ·rcases List.mem_append.1 h1 with h1 | h1
     ·exact .inr (.inr ⟨w,h1,h2⟩)
     ·rw [List.mem_singleton.1 h1] at h2
      exact .inr (.inl h2)
   ·rename_i hc
    rcases h with h | h
    ·rcases List.mem_append.1 h with h | h
     ·exact .inr (.inl h)
     ·rw [List.mem_singleton.1 h]
      exact .inl ⟨List.mem_cons_self ..,hc⟩
    ·exact .inr (.inr h)
theorem b2d{l:List UInt8}{w:List UInt8}{b:UInt8}(hw:w∈(st l).1)(hb:b∈w):b∈l∧b.toNat≠32:=by
 rcases b0h l ([],[]) (.inr ⟨w,hw,hb⟩) with h | h | ⟨w,h1,_⟩
 ·exact h
 ·cases h
 ·cases h1
theorem bkx{b:UInt8}(h:badB b=true)(hn:b.toNat≠32):okB b=false:=by
 unfold badB at h
 rw [Bool.or_eq_true,decide_eq_true_eq,decide_eq_true_eq] at h
 unfold okB
 rw [decide_eq_false hn,Bool.false_or,Bool.and_eq_false_iff,decide_eq_false_iff_not,decide_eq_false_iff_not]
 omega
theorem bdj{l:List UInt8}{b:UInt8}(hb:b∈l)(h:okB b=false):okW l=false:=by
 unfold okW
 rw [Bool.and_eq_false_iff]
 left
 rw [List.all_eq_false]
 exact⟨b,hb,by rw [h];simp⟩
theorem ad2{d:CD}(i:Int):by' ((CD.sl false (ab8 (line d))).cell i 0)=gw (wds d) i.toNat:=bl6 i
theorem a6y{d:CD}(hT:Typ (.sl [.str]) (CD.sl false (ab8 (line d)))):((CD.sl false (ab8 (line d))).len:Int)=(wds d).length:=by
 rw [hT.sl.1]
 show(((wds d).map afz).length:Int)=_
 rw [List.length_map]
theorem bjb{W:List (List UInt8)}{i:Nat}(h:i<W.length):gw W i∈W:=by
 unfold gw
 rw [List.getD_eq_getElem?_getD,List.getElem?_eq_getElem h]
 exact List.getElem_mem h
theorem g_0{W:List (List UInt8)}:(W.take (Int.toNat 0)).all axu=true:=rfl
theorem g_n{d:CD}{i:Int}(hg:((st (line d)).1.take i.toNat).all axu=true)(h1:¬ eqC ((CD.sl false (ab8 (line d))).cell i 0) (.v (.string ⟨⟨[]⟩⟩))=true)(h2:¬ (by' ((CD.sl false (ab8 (line d))).cell i 0)).any badB=true)(h0:0≤i)(hi:i<((CD.sl false (ab8 (line d))).len:Int))(hT:Typ (.sl [.str]) (CD.sl false (ab8 (line d)))):((st (line d)).1.take (i+1).toNat).all axu=true:=by
 have hc:Typ .str ((CD.sl false (ab8 (line d))).cell i 0):=hT.cell h0 hi rfl
 rw [biu hc,ad2] at h1
 rw [ad2] at h2
 rw [a6y hT] at hi
 have hlt:i.toNat<(wds d).length:=by omega
 rw [show(i+1).toNat=i.toNat+1 by omega,List.take_add_one,List.all_append,hg]
 have e:(st (line d)).1[i.toNat]? = some (gw (wds d) i.toNat):=by
  unfold gw
  rw [List.getD_eq_getElem?_getD,List.getElem?_eq_getElem hlt]
  exact List.getElem?_eq_getElem hlt
 rw [e]
 have:axu (gw (wds d) i.toNat)=true:=by
  unfold axu
  rw [Bool.and_eq_true,Bool.not_eq_true',Bool.not_eq_true']
  refine⟨?_,by simpa using h2⟩
  cases hh:gw (wds d) i.toNat with
  | nil=>exact absurd hh h1
  | cons a r=>rfl
 simp [this]
theorem b_1{d:CD}{i:Int}(h1:eqC ((CD.sl false (ab8 (line d))).cell i 0) (.v (.string ⟨⟨[]⟩⟩))=true)(h0:0≤i)(hi:i<((CD.sl false (ab8 (line d))).len:Int))(hT:Typ (.sl [.str]) (CD.sl false (ab8 (line d)))):¬ okW (line d)=true:=by
 have hc:Typ .str ((CD.sl false (ab8 (line d))).cell i 0):=hT.cell h0 hi rfl
 rw [biu hc,ad2] at h1
 rw [a6y hT] at hi
 intro hk
 unfold okW at hk
 rw [Bool.and_eq_true] at hk
 have:=List.all_eq_true.1 hk.2 _ (bjb (W:=wds d) (i:=i.toNat) (by omega))
 rw [h1] at this
 cases this
theorem b_2{d:CD}{i:Int}(h2:(by' ((CD.sl false (ab8 (line d))).cell i 0)).any badB=true)(h0:0≤i)(hi:i<((CD.sl false (ab8 (line d))).len:Int))(hT:Typ (.sl [.str]) (CD.sl false (ab8 (line d)))):¬ okW (line d)=true:=by
 rw [ad2] at h2
 rw [a6y hT] at hi
 rw [List.any_eq_true] at h2
 obtain⟨b,hb,hbad⟩:=h2
 obtain⟨g1,g2⟩:=b2d (l:=line d) (bjb (W:=wds d) (i:=i.toNat) (by omega)) hb
 rw [bdj g1 (bkx hbad g2)]
 simp
theorem b_3{d:CD}{i:Int}(h:126<byAt d i)(h0:0≤i)(hi:i<d.slen)(hT:Typ .str d):¬ okW (line d)=true:=by
 rw [afi hT] at hi
 have hlt:i.toNat<(by' d).length:=by omega
 unfold byAt at h
 have hm:(by' d).getD i.toNat 0∈line d:=by
  unfold line
  refine List.mem_append_left _ ?_
  rw [List.getD_eq_getElem?_getD,List.getElem?_eq_getElem hlt]
  exact List.getElem_mem hlt
 have hb:okB ((by' d).getD i.toNat 0)=false:=by
  refine bkx ?_ (by omega)
  unfold badB
  rw [decide_eq_true (show 126<((by' d).getD i.toNat 0).toNat by omega)]
  simp
 rw [bdj hm hb]
 simp
theorem n_0{l:List UInt8}:(l.take (Int.toNat 0)).all (fun b=>decide (b.toNat≤126))=true:=rfl
theorem n_n{d:CD}{i:Int}(hg:((by' d).take i.toNat).all (fun b=>decide (b.toNat≤126))=true)(h:¬ 126<byAt d i)(h0:0≤i)(hi:i<d.slen)(hT:Typ .str d):((by' d).take (i+1).toNat).all (fun b=>decide (b.toNat≤126))=true:=by
 unfold byAt at h
 rw [a3u h0 hi hT,List.all_append,hg,List.all_cons,List.all_nil,decide_eq_true (show((by' d).getD i.toNat 0).toNat≤126 by omega)]
 rfl
theorem b07{d:CD}{i j:Int}(hg:((st (line d)).1.take i.toNat).all axu=true)(hi:¬ i<((CD.sl false (ab8 (line d))).len:Int))(hn:((by' d).take j.toNat).all (fun b=>decide (b.toNat≤126))=true)(hj:¬ j<d.slen)(hT:Typ (.sl [.str]) (CD.sl false (ab8 (line d))))(hTd:Typ .str d):okW (line d)=true:=by
 rw [a6y hT] at hi
 have e1:(st (line d)).1.take i.toNat=(st (line d)).1:=List.take_of_length_le (by unfold wds at hi;omega)
 rw [e1,List.all_eq_true] at hg
 rw [bey hj hTd,List.all_eq_true] at hn
 unfold okW
 rw [Bool.and_eq_true,List.all_eq_true,List.all_eq_true]
 refine⟨fun b hb=>?_,fun w hw=>?_⟩
 ·by_cases h32:b.toNat=32
  ·unfold okB
   rw [decide_eq_true h32]
   simp
  ·rcases b0g h32 (line d) ([],[]) (.inl hb) with h | ⟨w,h1,h2⟩
   ·exfalso
    unfold line at h
    rw [List.foldl_append] at h
    have:(stp ((by' d).foldl stp ([],[])) 32).2=[]:=by
     unfold stp
     rw [if_pos (by decide)]
    rw [show([32]:List UInt8).foldl stp ((by' d).foldl stp ([],[]))=stp ((by' d).foldl stp ([],[])) 32 from rfl,this] at h
    cases h
   ·have:=hg w h1
    unfold axu at this
    rw [Bool.and_eq_true,Bool.not_eq_true',Bool.not_eq_true',List.any_eq_false] at this
    have hb':=this.2 b h2
    unfold badB at hb'
    rw [Bool.or_eq_true,decide_eq_true_eq,decide_eq_true_eq] at hb'
    unfold okB
    simp only [Bool.or_eq_true,Bool.and_eq_true,decide_eq_true_eq]
    exact .inr ⟨by omega,by omega⟩
 ·have:=hg w hw
  unfold axu at this
  rw [Bool.and_eq_true] at this
  exact this.1
noncomputable def T17:List (FuncId×Fsp):=[(40,brv)]
set_option maxRecDepth 100000 in
theorem hT17:an0 U Tryd.prog T17:=.cons b26 .nil
abbrev spX:X:=.lit (.string ⟨⟨[32]⟩⟩)
noncomputable def SWrd:Fsp:=⟨[(false,[.str])],[.ap .le [.ap .slen [.var 0],I 2500]],[(false,[.sl [.str]])],[([.ap (.usr 224) [.var 0],.ap .not [.ap .isnil [.ap (.usr 252) [.var 0]]]],[[.ap (.usr 252) [.var 0]]]),([.ap .not [.ap (.usr 224) [.var 0]],.ap .isnil [.ap (.nil true) []]],[[.ap (.nil true) []]])],true⟩
noncomputable def by2:Lp:=⟨[(.slot 11,.int .i64)],[0,2,3,9,10],[],fun F H k=>[.ap .le [zI,.var k],.ap .le [.var k,.ap .len [.ap (.usr 252) [.var 0]]],.ap (.usr 256) [.var 0,.var k]],fun F H k=>.ap (.sub .i64) [.ap .len [.ap (.usr 252) [.var 0]],.var k]⟩
noncomputable def by3:Lp:=⟨[(.slot 24,.int .i64)],[0,2,3,23],[],fun F H k=>[.ap .le [zI,.var k],.ap .le [.var k,.ap .slen [.var 0]],.ap (.usr 257) [.var 0,.var k]],fun F H k=>.ap (.sub .i64) [.ap .slen [.var 0],.var k]⟩
abbrev aoi:X:=(.ap (.usr 252) [(.var 0)])
abbrev a7c:X:=(.ap .eq [(.ap (.cell 0) [aoi,(.var 1)]),(.lit (.string (.mk (.mk []))))])
abbrev av3:X:=(.ap .lt [(.var 1),(.ap .len [aoi])])
abbrev bdy:List X:=[(.ap (.typ (.sl [.str])) [aoi]),(.ap .same [(.lit (.string (.mk (.mk [32])))),(.lit (.string (.mk (.mk [32]))))]),(.ap (.typ .str) [(.var 0)]),(.ap .le [(.ap .slen [(.var 0)]),(I 2500)])]
abbrev av2:List X:=(.ap .le [(I 0),(.var 1)])::(.ap .le [(.var 1),(.ap .len [aoi])])::(.ap (.usr 256) [(.var 0),(.var 1)])::bdy
abbrev a7b:List X:=(.ap .le [(I 0),(.var 2)])::(.ap .le [(.var 2),(.ap .slen [(.var 0)])])::(.ap (.usr 257) [(.var 0),(.var 2)])::(.ap .not [av3])::av2
def bvj:List VC:=[([(.ap (.typ .str) [(.var 0)]),(.ap .le [(.ap .slen [(.var 0)]),(I 2500)])],(.ap .same [(.lit (.string (.mk (.mk [32])))),(.lit (.string (.mk (.mk [32]))))])),
 (bdy,(.ap (.usr 256) [(.var 0),(I 0)])),
 (((.ap .not [(.ap (.usr 254) [(.ap (.cell 0) [aoi,(.var 1)])])])::(.ap .not [a7c])::av3::av2),(.ap (.usr 256) [(.var 0),(.ap (.add .i64) [(.var 1),(I 1)])])),
 (((.ap .not [av3])::av2),(.ap (.usr 257) [(.var 0),(I 0)])),
 (((.ap .not [(.ap .lt [(.lit (.int .u8 126)),(.ap .sidx [(.var 0),(.var 2)])])])::(.ap .lt [(.var 2),(.ap .slen [(.var 0)])])::a7b),(.ap (.usr 257) [(.var 0),(.ap (.add .i64) [(.var 2),(I 1)])]))]
def bvi:List (List X×List (List X)):=[((a7c::av3::av2),[[(.ap (.nil true) [])]]),
 (((.ap (.usr 254) [(.ap (.cell 0) [aoi,(.var 1)])])::(.ap .not [a7c])::av3::av2),[[(.ap (.nil true) [])]]),
 (((.ap .lt [(.lit (.int .u8 126)),(.ap .sidx [(.var 0),(.var 2)])])::(.ap .lt [(.var 2),(.ap .slen [(.var 0)])])::a7b),[[(.ap (.nil true) [])]]),
 (((.ap .not [(.ap .lt [(.var 2),(.ap .slen [(.var 0)])])])::a7b),[[aoi]])]
theorem bzt:runV Tryd.prog ⟨ahj (tab T17),orV2 bod (orvK Tryd.prog (ahj (tab T17)) 10 10 ⟨apf [],noY,U.lc⟩ 2),Tb.ent ⟨apf [],noY,U.lc⟩,10,10,none,Go.Sx.keyOf 17⟩ ⟨afu [(3,by2),(9,by3)],hintA [(1,fun F H=>[.ap .same [spX,spX]])]⟩ Tryd.f17 (acv Tryd.f17) SWrd=some (bvj,bvi):=by kernel_rfl
set_option maxHeartbeats 4000000 in
set_option maxRecDepth 100000 in
theorem b2q:abk U Tryd.prog 17 SWrd:=by
  refine abk.ofW (P:=Tryd.prog) (U:=U) (T:=(tab T17)) (l:=[]) (y:=noY) (dp:=2) (f:=17) (fn:=Tryd.f17) (fuel:=10) (fk:=10) (hs:=⟨afu [(3,by2),(9,by3)],hintA [(1,fun F H=>[.ap .same [spX,spX]])]⟩) (S:=SWrd) (a:=bod) (v:=bvj) (outs:=bvi) mixed hT17 amb.nil boe at17 (ag3 (by kernel_rfl)) bzt ?_ ?_
  · unfold bvj
    repeat' (first | exact ae1 _ | refine ae3 (fun v hh=>?_) ?_)
    all_goals
      simp only [aay,aa5,aax,aa4,aa3,b_lt,b_le,b_eq,aaz,aa1,aaj,abd,aal,aan,aa2,w_mk,aa6,aa0,w_l0,w_l1,aaf,aae,aaw,aac,aad,aak,aai,asz,a4b,a9f,a9g,axi,bdy,aoi,a7c,av3,av2,a7b] at hh ⊢
      repeat (obtain⟨_,hh⟩:=hh)
      try first | exact rfl | exact g_0 | exact n_0 | exact g_n (by assumption) (by assumption) (by assumption) (by assumption) (by assumption) (by assumption) | exact n_n (by assumption) (by assumption) (by assumption) (by assumption) (by assumption)
  · intro o ho σ hU hh
    obtain⟨v⟩:=σ
    cases hU
    simp only [bvi,List.mem_cons,List.not_mem_nil,or_false] at ho
    repeat' (first | (rcases ho with rfl | ho) | subst ho)
    all_goals
      simp only [aay,aa5,aax,aa4,aa3,b_lt,b_le,b_eq,aaz,aa1,aaj,abd,aal,aan,aa2,w_mk,aa6,aa0,w_l0,w_l1,aaf,aae,aaw,aac,aad,aak,aai,asz,a4b,a9f,a9g,axi,bdy,aoi,a7c,av3,av2,a7b] at hh
      repeat (obtain⟨_,hh⟩:=hh)
      first
      | (have hk:=b07 (by assumption) (by assumption) (by assumption) (by assumption) (by assumption) (by assumption)
         exact⟨_,List.mem_cons_self ..,by simp only [aad,aac,aaw,aaz,aag,aa0,aw8,asz,aae,w_l1,w_l0,aay,aai];exact⟨hk,by simp,trivial⟩,rfl⟩)
      | (have hk:¬ okW (line (v 0))=true:=by
           first | exact b_1 (by assumption) (by assumption) (by assumption) (by assumption) | exact b_2 (by assumption) (by assumption) (by assumption) (by assumption) | exact b_3 (by assumption) (by assumption) (by assumption) (by assumption)
         exact⟨_,List.mem_cons_of_mem _ (List.mem_cons_self ..),by simp only [aad,aac,aaw,aaz,aag,aa2,aai,aa0,aw8,aae,w_l1,w_l0,aay];exact⟨hk,trivial,trivial⟩,rfl⟩)
end Go.Proofs.YtamhchkknlbanaaDoor.Be

namespace Go.Proofs.YtamhchkknlbanaaDoor.Be
open Go.Sx Go.Proofs
noncomputable def bbn:Fsp:=⟨[(false,[.str])],[.ap .le [.ap .slen [.var 0],I 2500]],[(false,[.sl [.bool]]),(false,[.bool])],[([],[[.ap (.usr 206) [.var 0]],[.ap (.usr 258) [.var 0]]])],true⟩
noncomputable def lp21:Lp:=⟨[(.slot 4,.own true [.bool]),(.slot 10,.int .i64)],[0,2,3,8,9],[],fun F H k=>[.ap .le [zI,.var (k+2)],.ap .le [.var (k+2),.ap .slen [.var 0]],.ap .le [.var k,.var (k+2)],.ap .le [.var (k+2),.var k],.ap .same [.ap (.mk true) [.var (k+1)],.ap (.usr 208) [.var 0,.var (k+2)]],.ap (.usr 209) [.var 0,.var (k+2)]],fun F H k=>.ap (.sub .i64) [.ap .slen [.var 0],.var (k+2)]⟩
abbrev bC(d:CD)(i:Int):CD:=(CD.sl false (d.str.toList.map ab9)).cell i 0
theorem as7{d:CD}{i:Int}(h0:0≤i)(hi:i<d.slen)(hT:Typ .str d):bC d i=vInt .u8 (byAt d i):=by
 rw [afi hT] at hi
 have hlt:i.toNat<(by' d).length:=by omega
 unfold bC CD.cell byAt
 show(((by' d).map ab9).getD i.toNat []).getD 0 default=_
 have e:((by' d).map ab9).getD i.toNat []=ab9 (by' d)[i.toNat]:=by
  rw [List.getD_eq_getElem?_getD,List.getElem?_map,List.getElem?_eq_getElem hlt]
  rfl
 have e2:(by' d).getD i.toNat 0=(by' d)[i.toNat]:=by
  rw [List.getD_eq_getElem?_getD,List.getElem?_eq_getElem hlt]
  rfl
 rw [e,e2]
 rfl
theorem kb_n{d:CD}{r:List (List CD)}{i:Int}(hr:r=asr ((by' d).take i.toNat))(h0:0≤i)(hi:i<d.slen)(hT:Typ .str d):r++([]++[[aav (eqC (bC d i) (vInt .u8 49))]])=asr ((by' d).take (i+1).toNat):=by
 rw [as7 h0 hi hT]
 exact bxn hr h0 hi hT
theorem kb_1{d:CD}{i:Int}(h:eqC (bC d i) (vInt .u8 49)=true)(hb:ad1 ((by' d).take i.toNat)=true)(h0:0≤i)(hi:i<d.slen)(hT:Typ .str d):ad1 ((by' d).take (i+1).toNat)=true:=by
 rw [as7 h0 hi hT] at h
 exact bxo h hb h0 hi hT
theorem kb_2{d:CD}{i:Int}(h:eqC (bC d i) (vInt .u8 48)=true)(hb:ad1 ((by' d).take i.toNat)=true)(h0:0≤i)(hi:i<d.slen)(hT:Typ .str d):ad1 ((by' d).take (i+1).toNat)=true:=by
 rw [as7 h0 hi hT] at h
 exact bxp h hb h0 hi hT
theorem byv{d:CD}{i:Int}(h1:¬ eqC (bC d i) (vInt .u8 49)=true)(h2:¬ eqC (bC d i) (vInt .u8 48)=true)(h0:0≤i)(hi:i<d.slen)(hT:Typ .str d):[[mkz (a0m (by' d))],[aav (ad1 (by' d))]]=[[CD.sl true []],[aav false]]:=by
 rw [as7 h0 hi hT] at h1 h2
 have h:=bte h1 h2 h0 hi hT
 rw [afi hT] at hi
 rw [decide_eq_true (show 0<(by' d).length by omega),Bool.and_true] at h
 exact h
theorem kb_y{d:CD}{r:List (List CD)}{i:Int}(hr:r=asr ((by' d).take i.toNat))(hb:ad1 ((by' d).take i.toNat)=true)(hi:¬ i<d.slen)(hT:Typ .str d):[[mkz (a0m (by' d))],[aav (ad1 (by' d))]]=[[mkz r],[aav true]]:=by
 rw [bey hi hT] at hr hb
 unfold a0m
 rw [if_pos hb,hb,hr]
abbrev av5:X:=(.ap (.cell 0) [(.ap .byt [(.var 0)]),(.var 3)])
abbrev ar5:X:=(.ap .lt [(.var 3),(.ap (.cast .i64) [(.ap .slen [(.var 0)])])])
abbrev bdz:X:=(.ap .same [(.ap (.mk true) [(.ap .cat [(.var 2),(.ap .snoc [(.ap (.nil false) []),(.ap .eq [av5,(.lit (.int .u8 49))])])])]),(.ap (.usr 208) [(.var 0),(.ap (.add .i64) [(.var 3),(I 1)])])])
abbrev av6:X:=(.ap .eq [av5,(.lit (.int .u8 48))])
abbrev ar4:List X:=[(.ap .le [(I 0),(.var 3)]),(.ap .le [(.var 3),(.ap .slen [(.var 0)])]),(.ap .le [(.var 1),(.var 3)]),(.ap .le [(.var 3),(.var 1)]),(.ap .same [(.ap (.mk true) [(.var 2)]),(.ap (.usr 208) [(.var 0),(.var 3)])]),(.ap (.usr 209) [(.var 0),(.var 3)]),(.ap (.typ .str) [(.var 0)]),(.ap .le [(.ap .slen [(.var 0)]),(I 2500)])]
def bvn:List VC:=[([(.ap (.typ .str) [(.var 0)]),(.ap .le [(.ap .slen [(.var 0)]),(I 2500)])],(.ap .same [(.ap (.mk true) [(.ap (.nil true) [])]),(.ap (.usr 208) [(.var 0),(I 0)])])),
 ([(.ap (.typ .str) [(.var 0)]),(.ap .le [(.ap .slen [(.var 0)]),(I 2500)])],(.ap (.usr 209) [(.var 0),(I 0)])),
 (((.ap .eq [av5,(.lit (.int .u8 49))])::(.ap .not [av6])::ar5::ar4),bdz),
 (((.ap .eq [av5,(.lit (.int .u8 49))])::(.ap .not [av6])::ar5::ar4),(.ap (.usr 209) [(.var 0),(.ap (.add .i64) [(.var 3),(I 1)])])),
 ((av6::ar5::ar4),bdz),
 ((av6::ar5::ar4),(.ap (.usr 209) [(.var 0),(.ap (.add .i64) [(.var 3),(I 1)])]))]
def bvm:List (List X×List (List X)):=[(((.ap .not [(.ap .eq [av5,(.lit (.int .u8 49))])])::(.ap .not [av6])::ar5::ar4),[[(.ap (.nil true) [])],[(.lit (.bool false))]]),
 (((.ap .not [ar5])::ar4),[[(.ap (.mk true) [(.var 2)])],[(.lit (.bool true))]])]
theorem bzv:runS Tryd.prog (ahj T0) 10 10 ⟨afu [(3,lp21)],hintA []⟩ Tryd.f21 (acv Tryd.f21) bbn=some (bvn,bvm):=by kernel_rfl
set_option maxHeartbeats 4000000 in
set_option maxRecDepth 100000 in
theorem b2s:abk U Tryd.prog 21 bbn:=by
 refine abk.of (P:=Tryd.prog) (U:=U) (T:=T0) (f:=21) (fn:=Tryd.f21) (fuel:=10) (fk:=10) (hs:=⟨afu [(3,lp21)],hintA []⟩) (S:=bbn) (v:=bvn) (outs:=bvm) mixed hT0 at21 bzv ?_ ?_
 ·unfold bvn
  repeat' (first | exact ae1 _ | refine ae3 (fun v hh=>?_) ?_)
  all_goals
   simp only [aay,aa5,aax,aa4,aa3,aam,b_lt,b_le,b_eq,aaz,aa1,aaj,aal,aan,aa2,w_mk,aao,aa9,aa6,aa8,aa0,w_l0,w_l1,aaf,aae,aaw,aac,aad,aak,aai,aw7,a3v,a3w,aw9,mnX,mxX,bjo,aa7,abx,a4o,axa,axi,w_eq,a1k,atf,bj8,ar4,av5,ar5,bdz,av6] at hh ⊢
   repeat (obtain⟨_,hh⟩:=hh)
   try (first | grind [= aaf,= aaf] | (apply brz<;>first | assumption | grind [= aaf]) | (apply bxq<;>first | assumption | grind [= aaf]) | (apply kb_n<;>first | assumption | grind [= aaf]) | (apply kb_1<;>first | assumption | grind [= aaf]) | (apply kb_2<;>first | assumption | grind [= aaf]) | (apply byv<;>first | assumption | grind [= aaf]) | (apply kb_y<;>first | assumption | grind [= aaf]))
 ·intro o ho σ hU hh
  obtain⟨v⟩:=σ
  cases hU
  simp only [bvm,List.mem_cons,List.not_mem_nil,or_false] at ho
  repeat' (first | (rcases ho with rfl | ho) | subst ho)
  all_goals
   refine⟨_,List.mem_cons_self ..,by simp only [aay,aa5,aax,aa4,aa3,aam,b_lt,b_le,b_eq,aaz,aa1,aaj,aal,aan,aa2,w_mk,aao,aa9,aa6,aa8,aa0,w_l0,w_l1,aaf,aae,aaw,aac,aad,aak,aai],?_⟩
   simp only [aay,aa5,aax,aa4,aa3,aam,b_lt,b_le,b_eq,aaz,aa1,aaj,aal,aan,aa2,w_mk,aao,aa9,aa6,aa8,aa0,w_l0,w_l1,aaf,aae,aaw,aac,aad,aak,aai,aw7,a3v,a3w,aw9,mnX,mxX,bjo,aa7,abx,a4o,axa,axi,w_eq,a1k,atf,bj8,ar4,av5,ar5,bdz,av6] at hh
   simp only [List.map_cons,List.map_nil,aay,aa5,aax,aa4,aa3,aam,b_lt,b_le,b_eq,aaz,aa1,aaj,aal,aan,aa2,w_mk,aao,aa9,aa6,aa8,aa0,w_l0,w_l1,aaf,aae,aaw,aac,aad,aak,aai,w_lt,w_le,w_eq,ao0,aiw,ao1,aw7,a3v,a3w,aw9,mnX,mxX,bjo,aa7,abx,a4o,axa,axi,w_eq,a1k,atf,bj8]
   repeat (obtain⟨_,hh⟩:=hh)
   try (first | grind [= aaf,= aaf] | (apply brz<;>first | assumption | grind [= aaf]) | (apply bxq<;>first | assumption | grind [= aaf]) | (apply kb_n<;>first | assumption | grind [= aaf]) | (apply kb_1<;>first | assumption | grind [= aaf]) | (apply kb_2<;>first | assumption | grind [= aaf]) | (apply byv<;>first | assumption | grind [= aaf]) | (apply kb_y<;>first | assumption | grind [= aaf]))
end Go.Proofs.YtamhchkknlbanaaDoor.Be
