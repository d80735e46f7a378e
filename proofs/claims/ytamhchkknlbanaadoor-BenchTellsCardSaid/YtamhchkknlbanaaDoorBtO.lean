/-
  The line of a deed: the reference's is the program's. Conditions: none.
-/
import Derived.Test.YtamhchkknlbanaaDoorBtY
import Derived.Test.YtamhchkknlbanaaDoorBtP
import Derived.Test.YtamhchkknlbanaaDoorBtR
set_option linter.unusedSectionVars false
set_option linter.unusedVariables false
set_option linter.unusedSimpArgs false
set_option linter.all false
namespace Go.Proofs.YtamhchkknlbanaaDoor.Be
open Go.Sx Go.Proofs
abbrev Tr(v:Nat→CD)(x:X):Prop:=@Tru (@Sg.mk U v) x
theorem fct{v:Nat→CD}{hy:List X}(hh:@Holds (@Sg.mk U v) hy){x:X}(m:memX x hy=true):Tr v x:=hh x (@agy (@Sg.mk U v) x hy m)
abbrev fi0:X:=.ap .le [I 0,.var 10]
abbrev fi1:X:=.ap .lt [.var 10,.ap .len [nuX]]
abbrev fin:X:=.ap .not [fi1]
abbrev fS:X:=.ap .same [.var 9,.ap (.usr 287) [wX,nuX,.var 10]]
abbrev fO:X:=.ap (.usr 288) [nuX,.var 10]
abbrev fL:X:=.ap .le [.ap .slen [.var 9],.ap (.add .i64) [I 6,.ap (.mul .i64) [I 21,.var 10]]]
abbrev fLe:X:=.ap .le [.var 10,.ap .len [nuX]]
abbrev fW:X:=.ap .not [.ap .eq [wX,.lit (.string ⟨⟨[]⟩⟩)]]
abbrev cX:X:=.ap (.cell 0) [nuX,.var 10]
abbrev fc0:X:=.ap .not [.ap .lt [cX,I 0]]
abbrev fc1:X:=.ap .not [.ap .lt [I 1073741824,cX]]
abbrev gi0:X:=.ap .le [I 0,.var 12]
abbrev gi1:X:=.ap .lt [.var 12,.ap .len [.var 8]]
abbrev gin:X:=.ap .not [gi1]
abbrev gS:X:=.ap .same [.var 11,.ap (.usr 299) [s0X,.var 8,.var 12]]
abbrev gL:X:=.ap .le [.ap .slen [.var 11],.ap (.add .i64) [I 5202,.ap (.mul .i64) [I 2,.var 12]]]
abbrev gT:X:=.ap (.typ sI) [.var 12]
abbrev gz:X:=.ap .eq [.var 12,I 0]
abbrev gnz:X:=.ap .not [gz]
abbrev gb:X:=.ap (.cell 0) [.var 8,.var 12]
abbrev gnb:X:=.ap .not [gb]
abbrev gK:X:=.ap .le [.ap .len [.var 8],I 2500]
abbrev gTy:X:=.ap (.typ sOs) [.var 8]
abbrev bz0:X:=.ap .lt [I 0,.ap .len [.var 7]]
abbrev bnz:X:=.ap .not [bz0]
abbrev bzz:X:=.ap .le [.ap .len [.var 7],I 0]
abbrev bK:X:=.ap .le [.ap .len [.var 7],I 2500]
abbrev bT:X:=.ap (.typ sYs) [.var 7]
abbrev t32:X:=.lit (.string ⟨⟨[32]⟩⟩)
abbrev t48:X:=.lit (.string ⟨⟨[48]⟩⟩)
abbrev t49:X:=.lit (.string ⟨⟨[49]⟩⟩)
abbrev plX(a b:X):X:=.ap (.sbin .add) [a,b]
abbrev inX(a:X):X:=.ap (.add .i64) [a,I 1]
theorem kA0{v:Nat→CD}  : Tr v (.ap .le [.ap .len [nuX],I 4]):=by
 simp only [Tr,aay,aa5,aax,aa4,aa3,abr,abf,aam,w_wr,b_lt,b_le,b_eq,aaz,abl,b_or,aa1,aaj,aag,abp,abd,aal,aan,aa2,w_mk,aao,aa9,abo,abj,abg,aa6,aa8,abq,aa0,aau,abe,w_l0,w_l1,aaf,aae,aaw,aac,aad,aak,aai,aaq,aar,aas,aap,abn,abm,aat,abh,w_eq,aco,aci,acs,acy,acz,acr,acu,acj,ac0,adl,aa7,abx,acn,adg,adh,adi]
 have hn4:=af7 (v 0).iv (v 1).iv (v 2).iv (v 3).iv (v 5).iv (v 6).iv
 have hnl:=aji (v 0).iv (v 1).iv (v 2).iv (v 3).iv (v 5).iv (v 6).iv
 unfold nR at hnl
 rw [hnl]
 omega
theorem kA1{v:Nat→CD}  : Tr v (.ap .le [.ap .slen [wX],I 6]):=by
 simp only [Tr,aay,aa5,aax,aa4,aa3,abr,abf,aam,w_wr,b_lt,b_le,b_eq,aaz,abl,b_or,aa1,aaj,aag,abp,abd,aal,aan,aa2,w_mk,aao,aa9,abo,abj,abg,aa6,aa8,abq,aa0,aau,abe,w_l0,w_l1,aaf,aae,aaw,aac,aad,aak,aai,aaq,aar,aas,aap,abn,abm,aat,abh,w_eq,aco,aci,acs,acy,acz,acr,acu,acj,ac0,adl,aa7,abx,acn,adg,adh,adi]
 have hw6:=als (v 0).iv (v 4).bv
 unfold wF at hw6
 exact ak4 (by omega) (by decide)
theorem kA2{v:Nat→CD}  : Tr v (.ap .same [wX,.ap (.usr 287) [wX,nuX,I 0]]):=by
 simp only [Tr,aay,aa5,aax,aa4,aa3,abr,abf,aam,w_wr,b_lt,b_le,b_eq,aaz,abl,b_or,aa1,aaj,aag,abp,abd,aal,aan,aa2,w_mk,aao,aa9,abo,abj,abg,aa6,aa8,abq,aa0,aau,abe,w_l0,w_l1,aaf,aae,aaw,aac,aad,aak,aai,aaq,aar,aas,aap,abn,abm,aat,abh,w_eq,aco,aci,acs,acy,acz,acr,acu,acj,ac0,adl,aa7,abx,acn,adg,adh,adi]
 rw [nT_0]
theorem kA3{v:Nat→CD}  : Tr v (.ap (.usr 288) [nuX,I 0]):=by
 simp only [Tr,aay,aa5,aax,aa4,aa3,abr,abf,aam,w_wr,b_lt,b_le,b_eq,aaz,abl,b_or,aa1,aaj,aag,abp,abd,aal,aan,aa2,w_mk,aao,aa9,abo,abj,abg,aa6,aa8,abq,aa0,aau,abe,w_l0,w_l1,aaf,aae,aaw,aac,aad,aak,aai,aaq,aar,aas,aap,abn,abm,aat,abh,w_eq,aco,aci,acs,acy,acz,acr,acu,acj,ac0,adl,aa7,abx,acn,adg,adh,adi]
 rfl
theorem k32{v:Nat→CD}  : Tr v (l1X 32):=by
 simp only [Tr,aay,aa5,aax,aa4,aa3,abr,abf,aam,w_wr,b_lt,b_le,b_eq,aaz,abl,b_or,aa1,aaj,aag,abp,abd,aal,aan,aa2,w_mk,aao,aa9,abo,abj,abg,aa6,aa8,abq,aa0,aau,abe,w_l0,w_l1,aaf,aae,aaw,aac,aad,aak,aai,aaq,aar,aas,aap,abn,abm,aat,abh,w_eq,aco,aci,acs,acy,acz,acr,acu,acj,ac0,adl,aa7,abx,acn,adg,adh,adi]
 exact bmh _
theorem k48{v:Nat→CD}  : Tr v (l1X 48):=by
 simp only [Tr,aay,aa5,aax,aa4,aa3,abr,abf,aam,w_wr,b_lt,b_le,b_eq,aaz,abl,b_or,aa1,aaj,aag,abp,abd,aal,aan,aa2,w_mk,aao,aa9,abo,abj,abg,aa6,aa8,abq,aa0,aau,abe,w_l0,w_l1,aaf,aae,aaw,aac,aad,aak,aai,aaq,aar,aas,aap,abn,abm,aat,abh,w_eq,aco,aci,acs,acy,acz,acr,acu,acj,ac0,adl,aa7,abx,acn,adg,adh,adi]
 exact bmh _
theorem k49{v:Nat→CD}  : Tr v (l1X 49):=by
 simp only [Tr,aay,aa5,aax,aa4,aa3,abr,abf,aam,w_wr,b_lt,b_le,b_eq,aaz,abl,b_or,aa1,aaj,aag,abp,abd,aal,aan,aa2,w_mk,aao,aa9,abo,abj,abg,aa6,aa8,abq,aa0,aau,abe,w_l0,w_l1,aaf,aae,aaw,aac,aad,aak,aai,aaq,aar,aas,aap,abn,abm,aat,abh,w_eq,aco,aci,acs,acy,acz,acr,acu,acj,ac0,adl,aa7,abx,acn,adg,adh,adi]
 exact bmh _
theorem kA5{v:Nat→CD}(h_fi0:Tr v fi0)(h_fi1:Tr v fi1)(h_fc0:Tr v fc0)(h_fc1:Tr v fc1):Tr v (.ap .le [.ap .slen [.ap (.usr 251) [cX]],I 20]):=by
 simp only [Tr,aay,aa5,aax,aa4,aa3,abr,abf,aam,w_wr,b_lt,b_le,b_eq,aaz,abl,b_or,aa1,aaj,aag,abp,abd,aal,aan,aa2,w_mk,aao,aa9,abo,abj,abg,aa6,aa8,abq,aa0,aau,abe,w_l0,w_l1,aaf,aae,aaw,aac,aad,aak,aai,aaq,aar,aas,aap,abn,abm,aat,abh,w_eq,aco,aci,acs,acy,acz,acr,acu,acj,ac0,adl,aa7,abx,acn,adg,adh,adi] at h_fi0 h_fi1 h_fc0 h_fc1 ⊢
 exact bcu (by omega) (by omega)
theorem kA6{v:Nat→CD}(h_fi0:Tr v fi0)(h_fi1:Tr v fi1)(h_fS:Tr v fS)(h_fL:Tr v fL):Tr v (.ap .le [.ap .slen [plX (.var 9) t32],I 120]):=by
 simp only [Tr,aay,aa5,aax,aa4,aa3,abr,abf,aam,w_wr,b_lt,b_le,b_eq,aaz,abl,b_or,aa1,aaj,aag,abp,abd,aal,aan,aa2,w_mk,aao,aa9,abo,abj,abg,aa6,aa8,abq,aa0,aau,abe,w_l0,w_l1,aaf,aae,aaw,aac,aad,aak,aai,aaq,aar,aas,aap,abn,abm,aat,abh,w_eq,aco,aci,acs,acy,acz,acr,acu,acj,ac0,adl,aa7,abx,acn,adg,adh,adi] at h_fi0 h_fi1 h_fS h_fL ⊢
 have hw6:=als (v 0).iv (v 4).bv
 have hn4:=af7 (v 0).iv (v 1).iv (v 2).iv (v 3).iv (v 5).iv (v 6).iv
 have hnl:=aji (v 0).iv (v 1).iv (v 2).iv (v 3).iv (v 5).iv (v 6).iv
 unfold wF at hw6
 unfold nR at hnl
 generalize (frow (v 0).iv (v 4).bv).1=w at *
 generalize af6 (v 0).iv (v 1).iv (v 2).iv (v 3).iv (v 5).iv (v 6).iv=N at *
 simp only [hnl] at *
 rw [h_fS] at h_fL
 rw [h_fS]
 have hA:=aey h_fL (by omega)
 rw [asy (by simp only [List.length_cons,List.length_nil];omega)]
 exact ak4 (by rw [List.length_append];simp only [List.length_cons,List.length_nil];omega) (by decide)
theorem kA7{v:Nat→CD}(h_fi0:Tr v fi0)(h_fi1:Tr v fi1)(h_fS:Tr v fS)(h_fL:Tr v fL)(h_fc0:Tr v fc0)(h_fc1:Tr v fc1):Tr v (.ap .same [plX (plX (.var 9) t32) (.ap (.usr 251) [cX]),.ap (.usr 287) [wX,nuX,inX (.var 10)]]):=by
 simp only [Tr,aay,aa5,aax,aa4,aa3,abr,abf,aam,w_wr,b_lt,b_le,b_eq,aaz,abl,b_or,aa1,aaj,aag,abp,abd,aal,aan,aa2,w_mk,aao,aa9,abo,abj,abg,aa6,aa8,abq,aa0,aau,abe,w_l0,w_l1,aaf,aae,aaw,aac,aad,aak,aai,aaq,aar,aas,aap,abn,abm,aat,abh,w_eq,aco,aci,acs,acy,acz,acr,acu,acj,ac0,adl,aa7,abx,acn,adg,adh,adi] at h_fi0 h_fi1 h_fS h_fL h_fc0 h_fc1 ⊢
 have hw6:=als (v 0).iv (v 4).bv
 have hn4:=af7 (v 0).iv (v 1).iv (v 2).iv (v 3).iv (v 5).iv (v 6).iv
 have hnl:=aji (v 0).iv (v 1).iv (v 2).iv (v 3).iv (v 5).iv (v 6).iv
 unfold wF at hw6
 unfold nR at hnl
 generalize (frow (v 0).iv (v 4).bv).1=w at *
 generalize af6 (v 0).iv (v 1).iv (v 2).iv (v 3).iv (v 5).iv (v 6).iv=N at *
 simp only [hnl] at *
 obtain⟨_,hc⟩:=awr (l:=N) h_fi0 h_fi1
 rw [hc] at h_fc0 h_fc1
 have hx0:¬ N.getD (v 10).iv.toNat 0<0:=h_fc0
 have hx1:¬ 1073741824<N.getD (v 10).iv.toNat 0:=h_fc1
 rw [h_fS] at h_fL
 rw [h_fS,hc]
 have hA:=aey h_fL (by omega)
 have hl:=a99 (a08 hx0 hx1)
 rw [aaf,asy (by simp only [List.length_cons,List.length_nil];omega),asy (by simp only [List.length_append,List.length_cons,List.length_nil];omega),nT_n h_fi0 h_fi1,List.append_assoc]
 rfl
theorem kA8{v:Nat→CD}(h_fi0:Tr v fi0)(h_fi1:Tr v fi1)(h_fO:Tr v fO)(h_fc0:Tr v fc0)(h_fc1:Tr v fc1):Tr v (.ap (.usr 288) [nuX,inX (.var 10)]):=by
 simp only [Tr,aay,aa5,aax,aa4,aa3,abr,abf,aam,w_wr,b_lt,b_le,b_eq,aaz,abl,b_or,aa1,aaj,aag,abp,abd,aal,aan,aa2,w_mk,aao,aa9,abo,abj,abg,aa6,aa8,abq,aa0,aau,abe,w_l0,w_l1,aaf,aae,aaw,aac,aad,aak,aai,aaq,aar,aas,aap,abn,abm,aat,abh,w_eq,aco,aci,acs,acy,acz,acr,acu,acj,ac0,adl,aa7,abx,acn,adg,adh,adi] at h_fi0 h_fi1 h_fO h_fc0 h_fc1 ⊢
 have hw6:=als (v 0).iv (v 4).bv
 have hn4:=af7 (v 0).iv (v 1).iv (v 2).iv (v 3).iv (v 5).iv (v 6).iv
 have hnl:=aji (v 0).iv (v 1).iv (v 2).iv (v 3).iv (v 5).iv (v 6).iv
 unfold wF at hw6
 unfold nR at hnl
 generalize (frow (v 0).iv (v 4).bv).1=w at *
 generalize af6 (v 0).iv (v 1).iv (v 2).iv (v 3).iv (v 5).iv (v 6).iv=N at *
 simp only [hnl] at *
 obtain⟨_,hc⟩:=awr (l:=N) h_fi0 h_fi1
 rw [hc] at h_fc0 h_fc1
 have hx0:¬ N.getD (v 10).iv.toNat 0<0:=h_fc0
 have hx1:¬ 1073741824<N.getD (v 10).iv.toNat 0:=h_fc1
 exact nO_n h_fi0 h_fi1 h_fO hx0 hx1
theorem kA9{v:Nat→CD}(h_fi0:Tr v fi0)(h_fi1:Tr v fi1)(h_fS:Tr v fS)(h_fL:Tr v fL)(h_fc0:Tr v fc0)(h_fc1:Tr v fc1):Tr v (.ap .le [.ap .slen [plX (plX (.var 9) t32) (.ap (.usr 251) [cX])],.ap (.add .i64) [I 6,.ap (.mul .i64) [I 21,inX (.var 10)]]]):=by
 simp only [Tr,aay,aa5,aax,aa4,aa3,abr,abf,aam,w_wr,b_lt,b_le,b_eq,aaz,abl,b_or,aa1,aaj,aag,abp,abd,aal,aan,aa2,w_mk,aao,aa9,abo,abj,abg,aa6,aa8,abq,aa0,aau,abe,w_l0,w_l1,aaf,aae,aaw,aac,aad,aak,aai,aaq,aar,aas,aap,abn,abm,aat,abh,w_eq,aco,aci,acs,acy,acz,acr,acu,acj,ac0,adl,aa7,abx,acn,adg,adh,adi] at h_fi0 h_fi1 h_fS h_fL h_fc0 h_fc1 ⊢
 have hw6:=als (v 0).iv (v 4).bv
 have hn4:=af7 (v 0).iv (v 1).iv (v 2).iv (v 3).iv (v 5).iv (v 6).iv
 have hnl:=aji (v 0).iv (v 1).iv (v 2).iv (v 3).iv (v 5).iv (v 6).iv
 unfold wF at hw6
 unfold nR at hnl
 generalize (frow (v 0).iv (v 4).bv).1=w at *
 generalize af6 (v 0).iv (v 1).iv (v 2).iv (v 3).iv (v 5).iv (v 6).iv=N at *
 simp only [hnl] at *
 obtain⟨_,hc⟩:=awr (l:=N) h_fi0 h_fi1
 rw [hc] at h_fc0 h_fc1
 have hx0:¬ N.getD (v 10).iv.toNat 0<0:=h_fc0
 have hx1:¬ 1073741824<N.getD (v 10).iv.toNat 0:=h_fc1
 rw [h_fS] at h_fL
 rw [h_fS,hc]
 have hA:=aey h_fL (by omega)
 have hl:=a99 (a08 hx0 hx1)
 rw [aaf,asy (by simp only [List.length_cons,List.length_nil];omega),asy (by simp only [List.length_append,List.length_cons,List.length_nil];omega)]
 exact ak4 (by simp only [List.length_append,List.length_cons,List.length_nil];omega) (by omega)
theorem kA10{v:Nat→CD}(h_fW:Tr v fW):Tr v (.ap .le [.ap (.usr 289) [.var 0],.ap .len [nuX]]):=by
 simp only [Tr,aay,aa5,aax,aa4,aa3,abr,abf,aam,w_wr,b_lt,b_le,b_eq,aaz,abl,b_or,aa1,aaj,aag,abp,abd,aal,aan,aa2,w_mk,aao,aa9,abo,abj,abg,aa6,aa8,abq,aa0,aau,abe,w_l0,w_l1,aaf,aae,aaw,aac,aad,aak,aai,aaq,aar,aas,aap,abn,abm,aat,abh,w_eq,aco,aci,acs,acy,acz,acr,acu,acj,ac0,adl,aa7,abx,acn,adg,adh,adi] at h_fW ⊢
 have hnl:=aji (v 0).iv (v 1).iv (v 2).iv (v 3).iv (v 5).iv (v 6).iv
 unfold nR at hnl
 rw [hnl]
 exact bua (ne_w h_fW)
theorem kS8{v:Nat→CD}(h4:Tr v (.var 4))(he:Tr v e8X)(t0:Tr v (.ap (.typ sI) [.var 0]))(t4:Tr v (.ap (.typ .bool) [.var 4])):Tr v (.ap .not [smX (.ap .eq [.var 0,I 7]) (.var 7) (.ap (.nil true) [])]):=by
 simp only [Tr,aay,aa5,aax,aa4,aa3,abr,abf,aam,w_wr,b_lt,b_le,b_eq,aaz,abl,b_or,aa1,aaj,aag,abp,abd,aal,aan,aa2,w_mk,aao,aa9,abo,abj,abg,aa6,aa8,abq,aa0,aau,abe,w_l0,w_l1,aaf,aae,aaw,aac,aad,aak,aai,aaq,aar,aas,aap,abn,abm,aat,abh,w_eq,aco,aci,acs,acy,acz,acr,acu,acj,ac0,adl,aa7,abx,acn,adg,adh,adi] at h4 he t0 t4 ⊢
 have e0:=ae0 t0
 have e4:=a8q t4
 rw [h4] at e4
 rw [e0,ad3] at he
 rw [bmc (by rw [e4,e0,he];rfl)]
 decide
theorem kS10{v:Nat→CD}(h4:Tr v (.var 4))(he:Tr v e10X)(t0:Tr v (.ap (.typ sI) [.var 0]))(t4:Tr v (.ap (.typ .bool) [.var 4])):Tr v (.ap .not [smX (.ap .eq [.var 0,I 7]) (.ap (.nil true) []) (.var 8)]):=by
 simp only [Tr,aay,aa5,aax,aa4,aa3,abr,abf,aam,w_wr,b_lt,b_le,b_eq,aaz,abl,b_or,aa1,aaj,aag,abp,abd,aal,aan,aa2,w_mk,aao,aa9,abo,abj,abg,aa6,aa8,abq,aa0,aau,abe,w_l0,w_l1,aaf,aae,aaw,aac,aad,aak,aai,aaq,aar,aas,aap,abn,abm,aat,abh,w_eq,aco,aci,acs,acy,acz,acr,acu,acj,ac0,adl,aa7,abx,acn,adg,adh,adi] at h4 he t0 t4 ⊢
 have e0:=ae0 t0
 have e4:=a8q t4
 rw [h4] at e4
 rw [e0,ad3] at he
 rw [bmc (by rw [e4,e0,he];rfl)]
 decide
theorem kB13{v:Nat→CD}(h_bK:Tr v bK)(h_bT:Tr v bT):Tr v (.ap .le [.ap .slen [.ap (.usr 298) [.var 7]],I 5000]):=by
 simp only [Tr,aay,aa5,aax,aa4,aa3,abr,abf,aam,w_wr,b_lt,b_le,b_eq,aaz,abl,b_or,aa1,aaj,aag,abp,abd,aal,aan,aa2,w_mk,aao,aa9,abo,abj,abg,aa6,aa8,abq,aa0,aau,abe,w_l0,w_l1,aaf,aae,aaw,aac,aad,aak,aai,aaq,aar,aas,aap,abn,abm,aat,abh,w_eq,aco,aci,acs,acy,acz,acr,acu,acj,ac0,adl,aa7,abx,acn,adg,adh,adi] at h_bK h_bT ⊢
 have:=h_bT.sl.1
 exact ak4 (by rw [an8];omega) (by decide)
theorem kB14{v:Nat→CD}(h_fS:Tr v fS)(h_fL:Tr v fL)(h_fLe:Tr v fLe):Tr v (.ap .le [.ap .slen [plX (.var 9) t32],I 200]):=by
 simp only [Tr,aay,aa5,aax,aa4,aa3,abr,abf,aam,w_wr,b_lt,b_le,b_eq,aaz,abl,b_or,aa1,aaj,aag,abp,abd,aal,aan,aa2,w_mk,aao,aa9,abo,abj,abg,aa6,aa8,abq,aa0,aau,abe,w_l0,w_l1,aaf,aae,aaw,aac,aad,aak,aai,aaq,aar,aas,aap,abn,abm,aat,abh,w_eq,aco,aci,acs,acy,acz,acr,acu,acj,ac0,adl,aa7,abx,acn,adg,adh,adi] at h_fS h_fL h_fLe ⊢
 have hw6:=als (v 0).iv (v 4).bv
 have hn4:=af7 (v 0).iv (v 1).iv (v 2).iv (v 3).iv (v 5).iv (v 6).iv
 have hnl:=aji (v 0).iv (v 1).iv (v 2).iv (v 3).iv (v 5).iv (v 6).iv
 unfold wF at hw6
 unfold nR at hnl
 generalize (frow (v 0).iv (v 4).bv).1=w at *
 generalize af6 (v 0).iv (v 1).iv (v 2).iv (v 3).iv (v 5).iv (v 6).iv=N at *
 simp only [hnl] at *
 rw [h_fS] at h_fL
 rw [h_fS]
 have hA:=aey h_fL (by omega)
 rw [asy (by simp only [List.length_cons,List.length_nil];omega)]
 exact ak4 (by rw [List.length_append];simp only [List.length_cons,List.length_nil];omega) (by decide)
theorem kB15{v:Nat→CD}(h_fS:Tr v fS)(h_fL:Tr v fL)(h_fLe:Tr v fLe)(h_fin:Tr v fin)(h_bz0:Tr v bz0)(h_bK:Tr v bK)(h_bT:Tr v bT):Tr v (.ap .same [plX (plX (.var 9) t32) (.ap (.usr 298) [.var 7]),.ap (.usr 299) [s0X,.var 8,I 0]]):=by
 simp only [Tr,aay,aa5,aax,aa4,aa3,abr,abf,aam,w_wr,b_lt,b_le,b_eq,aaz,abl,b_or,aa1,aaj,aag,abp,abd,aal,aan,aa2,w_mk,aao,aa9,abo,abj,abg,aa6,aa8,abq,aa0,aau,abe,w_l0,w_l1,aaf,aae,aaw,aac,aad,aak,aai,aaq,aar,aas,aap,abn,abm,aat,abh,w_eq,aco,aci,acs,acy,acz,acr,acu,acj,ac0,adl,aa7,abx,acn,adg,adh,adi] at h_fS h_fL h_fLe h_fin h_bz0 h_bK h_bT ⊢
 have hw6:=als (v 0).iv (v 4).bv
 have hn4:=af7 (v 0).iv (v 1).iv (v 2).iv (v 3).iv (v 5).iv (v 6).iv
 have hnl:=aji (v 0).iv (v 1).iv (v 2).iv (v 3).iv (v 5).iv (v 6).iv
 unfold wF at hw6
 unfold nR at hnl
 generalize (frow (v 0).iv (v 4).bv).1=w at *
 generalize af6 (v 0).iv (v 1).iv (v 2).iv (v 3).iv (v 5).iv (v 6).iv=N at *
 simp only [hnl] at *
 rw [au2 h_bT] at h_bz0
 have hb:=h_bT.sl.1
 have hh:=an8 (v 7).rows
 rw [h_fS] at h_fL
 rw [h_fS]
 have hA:=aey h_fL (by omega)
 rw [asy (by simp only [List.length_cons,List.length_nil];omega),asy (by simp only [List.length_append,List.length_cons,List.length_nil];omega)]
 rw [bkb h_fin,if_neg (by rw [h_bz0];decide),List.append_assoc]
 exact congrArg tx (List.append_nil _).symm
theorem kB16{v:Nat→CD}(h_fS:Tr v fS)(h_fL:Tr v fL)(h_fLe:Tr v fLe)(h_bz0:Tr v bz0)(h_bK:Tr v bK)(h_bT:Tr v bT):Tr v (.ap .le [.ap .slen [plX (plX (.var 9) t32) (.ap (.usr 298) [.var 7])],.ap (.add .i64) [I 5202,.ap (.mul .i64) [I 2,I 0]]]):=by
 simp only [Tr,aay,aa5,aax,aa4,aa3,abr,abf,aam,w_wr,b_lt,b_le,b_eq,aaz,abl,b_or,aa1,aaj,aag,abp,abd,aal,aan,aa2,w_mk,aao,aa9,abo,abj,abg,aa6,aa8,abq,aa0,aau,abe,w_l0,w_l1,aaf,aae,aaw,aac,aad,aak,aai,aaq,aar,aas,aap,abn,abm,aat,abh,w_eq,aco,aci,acs,acy,acz,acr,acu,acj,ac0,adl,aa7,abx,acn,adg,adh,adi] at h_fS h_fL h_fLe h_bz0 h_bK h_bT ⊢
 have hw6:=als (v 0).iv (v 4).bv
 have hn4:=af7 (v 0).iv (v 1).iv (v 2).iv (v 3).iv (v 5).iv (v 6).iv
 have hnl:=aji (v 0).iv (v 1).iv (v 2).iv (v 3).iv (v 5).iv (v 6).iv
 unfold wF at hw6
 unfold nR at hnl
 generalize (frow (v 0).iv (v 4).bv).1=w at *
 generalize af6 (v 0).iv (v 1).iv (v 2).iv (v 3).iv (v 5).iv (v 6).iv=N at *
 simp only [hnl] at *
 rw [au2 h_bT] at h_bz0
 have hb:=h_bT.sl.1
 have hh:=an8 (v 7).rows
 rw [h_fS] at h_fL
 rw [h_fS]
 have hA:=aey h_fL (by omega)
 rw [asy (by simp only [List.length_cons,List.length_nil];omega),asy (by simp only [List.length_append,List.length_cons,List.length_nil];omega)]
 exact ak4 (by simp only [List.length_append,List.length_cons,List.length_nil];omega) (by decide)
theorem kB30{v:Nat→CD}(h_fS:Tr v fS)(h_fin:Tr v fin)(h_bnz:Tr v bnz)(h_bT:Tr v bT):Tr v (.ap .same [.var 9,.ap (.usr 299) [s0X,.var 8,I 0]]):=by
 simp only [Tr,aay,aa5,aax,aa4,aa3,abr,abf,aam,w_wr,b_lt,b_le,b_eq,aaz,abl,b_or,aa1,aaj,aag,abp,abd,aal,aan,aa2,w_mk,aao,aa9,abo,abj,abg,aa6,aa8,abq,aa0,aau,abe,w_l0,w_l1,aaf,aae,aaw,aac,aad,aak,aai,aaq,aar,aas,aap,abn,abm,aat,abh,w_eq,aco,aci,acs,acy,acz,acr,acu,acj,ac0,adl,aa7,abx,acn,adg,adh,adi] at h_fS h_fin h_bnz h_bT ⊢
 have hw6:=als (v 0).iv (v 4).bv
 have hn4:=af7 (v 0).iv (v 1).iv (v 2).iv (v 3).iv (v 5).iv (v 6).iv
 have hnl:=aji (v 0).iv (v 1).iv (v 2).iv (v 3).iv (v 5).iv (v 6).iv
 unfold wF at hw6
 unfold nR at hnl
 generalize (frow (v 0).iv (v 4).bv).1=w at *
 generalize af6 (v 0).iv (v 1).iv (v 2).iv (v 3).iv (v 5).iv (v 6).iv=N at *
 simp only [hnl] at *
 have hb:(v 7).rows.isEmpty=true:=by
  rw [au2 h_bT] at h_bnz
  simpa using h_bnz
 rw [h_fS,bkb h_fin,if_pos hb]
 exact congrArg tx (by rw [List.append_nil];exact(List.append_nil _).symm)
theorem b1d{v:Nat→CD}(h_fS:Tr v fS)(h_fin:Tr v fin)(h_bzz:Tr v bzz)(h_bT:Tr v bT):Tr v (.ap .same [.var 9,.ap (.usr 299) [s0X,.var 8,I 0]]):=by
 simp only [Tr,aay,aa5,aax,aa4,aa3,abr,abf,aam,w_wr,b_lt,b_le,b_eq,aaz,abl,b_or,aa1,aaj,aag,abp,abd,aal,aan,aa2,w_mk,aao,aa9,abo,abj,abg,aa6,aa8,abq,aa0,aau,abe,w_l0,w_l1,aaf,aae,aaw,aac,aad,aak,aai,aaq,aar,aas,aap,abn,abm,aat,abh,w_eq,aco,aci,acs,acy,acz,acr,acu,acj,ac0,adl,aa7,abx,acn,adg,adh,adi] at h_fS h_fin h_bzz h_bT ⊢
 have hw6:=als (v 0).iv (v 4).bv
 have hn4:=af7 (v 0).iv (v 1).iv (v 2).iv (v 3).iv (v 5).iv (v 6).iv
 have hnl:=aji (v 0).iv (v 1).iv (v 2).iv (v 3).iv (v 5).iv (v 6).iv
 unfold wF at hw6
 unfold nR at hnl
 generalize (frow (v 0).iv (v 4).bv).1=w at *
 generalize af6 (v 0).iv (v 1).iv (v 2).iv (v 3).iv (v 5).iv (v 6).iv=N at *
 simp only [hnl] at *
 have hb:(v 7).rows.isEmpty=true:=by
  have:=h_bT.sl.1
  have h0:(v 7).rows.length=0:=by omega
  rw [List.length_eq_zero_iff.1 h0]
  rfl
 rw [h_fS,bkb h_fin,if_pos hb]
 exact congrArg tx (by rw [List.append_nil];exact(List.append_nil _).symm)
theorem k47{v:Nat→CD}{a b:X}(h:Tr v (smX a (.ap (.nil true) []) b)):Tr v bzz:=by
 simp only [Tr,aay,aa5,aax,aa4,aa3,abr,abf,aam,w_wr,b_lt,b_le,b_eq,aaz,abl,b_or,aa1,aaj,aag,abp,abd,aal,aan,aa2,w_mk,aao,aa9,abo,abj,abg,aa6,aa8,abq,aa0,aau,abe,w_l0,w_l1,aaf,aae,aaw,aac,aad,aak,aai,aaq,aar,aas,aap,abn,abm,aat,abh,w_eq,aco,aci,acs,acy,acz,acr,acu,acj,ac0,adl,aa7,abx,acn,adg,adh,adi] at h ⊢
 exact b1o (bmb h)
theorem kT0{v:Nat→CD}  : Tr v (.ap (.typ sI) [I 0]):=by
 simp only [Tr,aay,aa5,aax,aa4,aa3,abr,abf,aam,w_wr,b_lt,b_le,b_eq,aaz,abl,b_or,aa1,aaj,aag,abp,abd,aal,aan,aa2,w_mk,aao,aa9,abo,abj,abg,aa6,aa8,abq,aa0,aau,abe,w_l0,w_l1,aaf,aae,aaw,aac,aad,aak,aai,aaq,aar,aas,aap,abn,abm,aat,abh,w_eq,aco,aci,acs,acy,acz,acr,acu,acj,ac0,adl,aa7,abx,acn,adg,adh,adi]
 exact ty_i (by decide) (by decide)
theorem kT1{v:Nat→CD}(h_gi0:Tr v gi0)(h_gi1:Tr v gi1)(h_gK:Tr v gK):Tr v (.ap (.typ sI) [inX (.var 12)]):=by
 simp only [Tr,aay,aa5,aax,aa4,aa3,abr,abf,aam,w_wr,b_lt,b_le,b_eq,aaz,abl,b_or,aa1,aaj,aag,abp,abd,aal,aan,aa2,w_mk,aao,aa9,abo,abj,abg,aa6,aa8,abq,aa0,aau,abe,w_l0,w_l1,aaf,aae,aaw,aac,aad,aak,aai,aaq,aar,aas,aap,abn,abm,aat,abh,w_eq,aco,aci,acs,acy,acz,acr,acu,acj,ac0,adl,aa7,abx,acn,adg,adh,adi] at h_gi0 h_gi1 h_gK ⊢
 exact ty_i (by omega) (by omega)
theorem kC19{v:Nat→CD}(h_gi0:Tr v gi0)(h_gi1:Tr v gi1)(h_gS:Tr v gS)(h_gL:Tr v gL)(h_gK:Tr v gK):Tr v (.ap .le [.ap .slen [plX (.var 11) t32],I 12000]):=by
 simp only [Tr,aay,aa5,aax,aa4,aa3,abr,abf,aam,w_wr,b_lt,b_le,b_eq,aaz,abl,b_or,aa1,aaj,aag,abp,abd,aal,aan,aa2,w_mk,aao,aa9,abo,abj,abg,aa6,aa8,abq,aa0,aau,abe,w_l0,w_l1,aaf,aae,aaw,aac,aad,aak,aai,aaq,aar,aas,aap,abn,abm,aat,abh,w_eq,aco,aci,acs,acy,acz,acr,acu,acj,ac0,adl,aa7,abx,acn,adg,adh,adi] at h_gi0 h_gi1 h_gS h_gL h_gK ⊢
 rw [h_gS] at h_gL
 rw [h_gS]
 have hA:=aey h_gL (by omega)
 rw [tx_1 (by omega)]
 exact ak4 (by rw [bt3];omega) (by decide)
theorem b1h{v:Nat→CD}(h_gi0:Tr v gi0)(h_gi1:Tr v gi1)(h_gS:Tr v gS)(h_gL:Tr v gL)(h_gK:Tr v gK)(h_gT:Tr v gT)(h_gTy:Tr v gTy)(h_gb:Tr v gb)(h_gz:Tr v gz):Tr v (.ap .same [plX (plX (.var 11) t32) t49,.ap (.usr 299) [s0X,.var 8,inX (.var 12)]]):=by
 simp only [Tr,aay,aa5,aax,aa4,aa3,abr,abf,aam,w_wr,b_lt,b_le,b_eq,aaz,abl,b_or,aa1,aaj,aag,abp,abd,aal,aan,aa2,w_mk,aao,aa9,abo,abj,abg,aa6,aa8,abq,aa0,aau,abe,w_l0,w_l1,aaf,aae,aaw,aac,aad,aak,aai,aaq,aar,aas,aap,abn,abm,aat,abh,w_eq,aco,aci,acs,acy,acz,acr,acu,acj,ac0,adl,aa7,abx,acn,adg,adh,adi] at h_gi0 h_gi1 h_gS h_gL h_gK h_gT h_gTy h_gb h_gz ⊢
 have hl:=h_gTy.sl.1
 have hi:(v 12).iv<((v 8).rows.length:Int):=by omega
 have hb:(if((CD.sl false (v 8).rows).cell (v 12).iv 0).bv=true then(49:UInt8) else 48)=49:=by
  rw [as8]
  exact if_pos h_gb
 have e12:=ae0 h_gT
 rw [e12,ad3] at h_gz
 rw [h_gS] at h_gL
 rw [h_gS]
 have hA:=aey h_gL (by omega)
 rw [tx_2 (by omega)]
 exact congrArg tx (by5 h_gi0 hi h_gz hb).symm
theorem b1l{v:Nat→CD}(h_gi0:Tr v gi0)(h_gi1:Tr v gi1)(h_gS:Tr v gS)(h_gL:Tr v gL)(h_gK:Tr v gK)(h_gT:Tr v gT)(h_gz:Tr v gz):Tr v (.ap .le [.ap .slen [plX (plX (.var 11) t32) t49],.ap (.add .i64) [I 5202,.ap (.mul .i64) [I 2,inX (.var 12)]]]):=by
 simp only [Tr,aay,aa5,aax,aa4,aa3,abr,abf,aam,w_wr,b_lt,b_le,b_eq,aaz,abl,b_or,aa1,aaj,aag,abp,abd,aal,aan,aa2,w_mk,aao,aa9,abo,abj,abg,aa6,aa8,abq,aa0,aau,abe,w_l0,w_l1,aaf,aae,aaw,aac,aad,aak,aai,aaq,aar,aas,aap,abn,abm,aat,abh,w_eq,aco,aci,acs,acy,acz,acr,acu,acj,ac0,adl,aa7,abx,acn,adg,adh,adi] at h_gi0 h_gi1 h_gS h_gL h_gK h_gT h_gz ⊢
 rw [h_gS] at h_gL
 rw [h_gS]
 have hA:=aey h_gL (by omega)
 rw [tx_2 (by omega)]
 exact ak4 (by rw [byw];omega) (by omega)
theorem b1f{v:Nat→CD}(h_gi0:Tr v gi0)(h_gi1:Tr v gi1)(h_gS:Tr v gS)(h_gL:Tr v gL)(h_gK:Tr v gK)(h_gT:Tr v gT)(h_gTy:Tr v gTy)(h_gb:Tr v gb)(h_gnz:Tr v gnz):Tr v (.ap .same [plX (.var 11) t49,.ap (.usr 299) [s0X,.var 8,inX (.var 12)]]):=by
 simp only [Tr,aay,aa5,aax,aa4,aa3,abr,abf,aam,w_wr,b_lt,b_le,b_eq,aaz,abl,b_or,aa1,aaj,aag,abp,abd,aal,aan,aa2,w_mk,aao,aa9,abo,abj,abg,aa6,aa8,abq,aa0,aau,abe,w_l0,w_l1,aaf,aae,aaw,aac,aad,aak,aai,aaq,aar,aas,aap,abn,abm,aat,abh,w_eq,aco,aci,acs,acy,acz,acr,acu,acj,ac0,adl,aa7,abx,acn,adg,adh,adi] at h_gi0 h_gi1 h_gS h_gL h_gK h_gT h_gTy h_gb h_gnz ⊢
 have hl:=h_gTy.sl.1
 have hi:(v 12).iv<((v 8).rows.length:Int):=by omega
 have hb:(if((CD.sl false (v 8).rows).cell (v 12).iv 0).bv=true then(49:UInt8) else 48)=49:=by
  rw [as8]
  exact if_pos h_gb
 have e12:=ae0 h_gT
 rw [e12,ad3] at h_gnz
 rw [h_gS] at h_gL
 rw [h_gS]
 have hA:=aey h_gL (by omega)
 rw [tx_1 (by omega)]
 exact congrArg tx (by6 h_gi0 hi h_gnz hb).symm
theorem b1j{v:Nat→CD}(h_gi0:Tr v gi0)(h_gi1:Tr v gi1)(h_gS:Tr v gS)(h_gL:Tr v gL)(h_gK:Tr v gK):Tr v (.ap .le [.ap .slen [plX (.var 11) t49],.ap (.add .i64) [I 5202,.ap (.mul .i64) [I 2,inX (.var 12)]]]):=by
 simp only [Tr,aay,aa5,aax,aa4,aa3,abr,abf,aam,w_wr,b_lt,b_le,b_eq,aaz,abl,b_or,aa1,aaj,aag,abp,abd,aal,aan,aa2,w_mk,aao,aa9,abo,abj,abg,aa6,aa8,abq,aa0,aau,abe,w_l0,w_l1,aaf,aae,aaw,aac,aad,aak,aai,aaq,aar,aas,aap,abn,abm,aat,abh,w_eq,aco,aci,acs,acy,acz,acr,acu,acj,ac0,adl,aa7,abx,acn,adg,adh,adi] at h_gi0 h_gi1 h_gS h_gL h_gK ⊢
 rw [h_gS] at h_gL
 rw [h_gS]
 have hA:=aey h_gL (by omega)
 rw [tx_1 (by omega)]
 exact ak4 (by rw [bt3];omega) (by omega)
theorem b1g{v:Nat→CD}(h_gi0:Tr v gi0)(h_gi1:Tr v gi1)(h_gS:Tr v gS)(h_gL:Tr v gL)(h_gK:Tr v gK)(h_gT:Tr v gT)(h_gTy:Tr v gTy)(h_gnb:Tr v gnb)(h_gz:Tr v gz):Tr v (.ap .same [plX (plX (.var 11) t32) t48,.ap (.usr 299) [s0X,.var 8,inX (.var 12)]]):=by
 simp only [Tr,aay,aa5,aax,aa4,aa3,abr,abf,aam,w_wr,b_lt,b_le,b_eq,aaz,abl,b_or,aa1,aaj,aag,abp,abd,aal,aan,aa2,w_mk,aao,aa9,abo,abj,abg,aa6,aa8,abq,aa0,aau,abe,w_l0,w_l1,aaf,aae,aaw,aac,aad,aak,aai,aaq,aar,aas,aap,abn,abm,aat,abh,w_eq,aco,aci,acs,acy,acz,acr,acu,acj,ac0,adl,aa7,abx,acn,adg,adh,adi] at h_gi0 h_gi1 h_gS h_gL h_gK h_gT h_gTy h_gnb h_gz ⊢
 have hl:=h_gTy.sl.1
 have hi:(v 12).iv<((v 8).rows.length:Int):=by omega
 have hb:(if((CD.sl false (v 8).rows).cell (v 12).iv 0).bv=true then(49:UInt8) else 48)=48:=by
  rw [as8]
  exact if_neg h_gnb
 have e12:=ae0 h_gT
 rw [e12,ad3] at h_gz
 rw [h_gS] at h_gL
 rw [h_gS]
 have hA:=aey h_gL (by omega)
 rw [tx_2 (by omega)]
 exact congrArg tx (by5 h_gi0 hi h_gz hb).symm
theorem b1k{v:Nat→CD}(h_gi0:Tr v gi0)(h_gi1:Tr v gi1)(h_gS:Tr v gS)(h_gL:Tr v gL)(h_gK:Tr v gK)(h_gT:Tr v gT)(h_gz:Tr v gz):Tr v (.ap .le [.ap .slen [plX (plX (.var 11) t32) t48],.ap (.add .i64) [I 5202,.ap (.mul .i64) [I 2,inX (.var 12)]]]):=by
 simp only [Tr,aay,aa5,aax,aa4,aa3,abr,abf,aam,w_wr,b_lt,b_le,b_eq,aaz,abl,b_or,aa1,aaj,aag,abp,abd,aal,aan,aa2,w_mk,aao,aa9,abo,abj,abg,aa6,aa8,abq,aa0,aau,abe,w_l0,w_l1,aaf,aae,aaw,aac,aad,aak,aai,aaq,aar,aas,aap,abn,abm,aat,abh,w_eq,aco,aci,acs,acy,acz,acr,acu,acj,ac0,adl,aa7,abx,acn,adg,adh,adi] at h_gi0 h_gi1 h_gS h_gL h_gK h_gT h_gz ⊢
 rw [h_gS] at h_gL
 rw [h_gS]
 have hA:=aey h_gL (by omega)
 rw [tx_2 (by omega)]
 exact ak4 (by rw [byw];omega) (by omega)
theorem b1e{v:Nat→CD}(h_gi0:Tr v gi0)(h_gi1:Tr v gi1)(h_gS:Tr v gS)(h_gL:Tr v gL)(h_gK:Tr v gK)(h_gT:Tr v gT)(h_gTy:Tr v gTy)(h_gnb:Tr v gnb)(h_gnz:Tr v gnz):Tr v (.ap .same [plX (.var 11) t48,.ap (.usr 299) [s0X,.var 8,inX (.var 12)]]):=by
 simp only [Tr,aay,aa5,aax,aa4,aa3,abr,abf,aam,w_wr,b_lt,b_le,b_eq,aaz,abl,b_or,aa1,aaj,aag,abp,abd,aal,aan,aa2,w_mk,aao,aa9,abo,abj,abg,aa6,aa8,abq,aa0,aau,abe,w_l0,w_l1,aaf,aae,aaw,aac,aad,aak,aai,aaq,aar,aas,aap,abn,abm,aat,abh,w_eq,aco,aci,acs,acy,acz,acr,acu,acj,ac0,adl,aa7,abx,acn,adg,adh,adi] at h_gi0 h_gi1 h_gS h_gL h_gK h_gT h_gTy h_gnb h_gnz ⊢
 have hl:=h_gTy.sl.1
 have hi:(v 12).iv<((v 8).rows.length:Int):=by omega
 have hb:(if((CD.sl false (v 8).rows).cell (v 12).iv 0).bv=true then(49:UInt8) else 48)=48:=by
  rw [as8]
  exact if_neg h_gnb
 have e12:=ae0 h_gT
 rw [e12,ad3] at h_gnz
 rw [h_gS] at h_gL
 rw [h_gS]
 have hA:=aey h_gL (by omega)
 rw [tx_1 (by omega)]
 exact congrArg tx (by6 h_gi0 hi h_gnz hb).symm
theorem b1i{v:Nat→CD}(h_gi0:Tr v gi0)(h_gi1:Tr v gi1)(h_gS:Tr v gS)(h_gL:Tr v gL)(h_gK:Tr v gK):Tr v (.ap .le [.ap .slen [plX (.var 11) t48],.ap (.add .i64) [I 5202,.ap (.mul .i64) [I 2,inX (.var 12)]]]):=by
 simp only [Tr,aay,aa5,aax,aa4,aa3,abr,abf,aam,w_wr,b_lt,b_le,b_eq,aaz,abl,b_or,aa1,aaj,aag,abp,abd,aal,aan,aa2,w_mk,aao,aa9,abo,abj,abg,aa6,aa8,abq,aa0,aau,abe,w_l0,w_l1,aaf,aae,aaw,aac,aad,aak,aai,aaq,aar,aas,aap,abn,abm,aat,abh,w_eq,aco,aci,acs,acy,acz,acr,acu,acj,ac0,adl,aa7,abx,acn,adg,adh,adi] at h_gi0 h_gi1 h_gS h_gL h_gK ⊢
 rw [h_gS] at h_gL
 rw [h_gS]
 have hA:=aey h_gL (by omega)
 rw [tx_1 (by omega)]
 exact ak4 (by rw [bt3];omega) (by omega)
def AllT(v:Nat→CD):List X→Prop
 | []=>True
 | x::r=>Tr v x∧AllT v r
theorem a9v{v:Nat→CD}{hy:List X}(hh:@Holds (@Sg.mk U v) hy):∀ {l:List X},(l.all fun x=>memX x hy)=true→AllT v l
 | [],_=>trivial
 | x::r,h=>by
  rw [List.all_cons,Bool.and_eq_true] at h
  exact⟨fct hh h.1,a9v hh h.2⟩
structure Rl where
 hy:List X
 c:X
 ok:∀ v,AllT v hy→Tr v c
noncomputable def zR:List Rl:=[⟨[],_,fun _ _=>kA0⟩,
 ⟨[],_,fun _ _=>kA1⟩,
 ⟨[],_,fun _ _=>kA2⟩,
 ⟨[],_,fun _ _=>kA3⟩,
 ⟨[],_,fun _ _=>k32⟩,
 ⟨[fi0,fi1,fc0,fc1],_,fun _ ⟨a,b,c,d,_⟩=>kA5 a b c d⟩,
 ⟨[fi0,fi1,fS,fL],_,fun _ ⟨a,b,c,d,_⟩=>kA6 a b c d⟩,
 ⟨[fi0,fi1,fS,fL,fc0,fc1],_,fun _ ⟨a,b,c,d,e,f,_⟩=>kA7 a b c d e f⟩,
 ⟨[fi0,fi1,fO,fc0,fc1],_,fun _ ⟨a,b,c,d,e,_⟩=>kA8 a b c d e⟩,
 ⟨[fi0,fi1,fS,fL,fc0,fc1],_,fun _ ⟨a,b,c,d,e,f,_⟩=>kA9 a b c d e f⟩,
 ⟨[fW],_,fun _ ⟨a,_⟩=>kA10 a⟩,
 ⟨[(.var 4),e8X,(.ap (.typ sI) [.var 0]),(.ap (.typ .bool) [.var 4])],_,fun _ ⟨a,b,c,d,_⟩=>kS8 a b c d⟩,
 ⟨[bK,bT],_,fun _ ⟨a,b,_⟩=>kB13 a b⟩,
 ⟨[fS,fL,fLe],_,fun _ ⟨a,b,c,_⟩=>kB14 a b c⟩,
 ⟨[fS,fL,fLe,fin,bz0,bK,bT],_,fun _ ⟨a,b,c,d,e,f,g,_⟩=>kB15 a b c d e f g⟩,
 ⟨[fS,fL,fLe,bz0,bK,bT],_,fun _ ⟨a,b,c,d,e,f,_⟩=>kB16 a b c d e f⟩,
 ⟨[],_,fun _ _=>kT0⟩,
 ⟨[],_,fun _ _=>k48⟩,
 ⟨[],_,fun _ _=>k49⟩,
 ⟨[gi0,gi1,gS,gL,gK],_,fun _ ⟨a,b,c,d,e,_⟩=>kC19 a b c d e⟩,
 ⟨[gi0,gi1,gS,gL,gK,gT,gTy,gb,gz],_,fun _ ⟨a,b,c,d,e,f,g,i,j,_⟩=>b1h a b c d e f g i j⟩,
 ⟨[gi0,gi1,gS,gL,gK,gT,gz],_,fun _ ⟨a,b,c,d,e,f,g,_⟩=>b1l a b c d e f g⟩,
 ⟨[gi0,gi1,gK],_,fun _ ⟨a,b,c,_⟩=>kT1 a b c⟩,
 ⟨[gi0,gi1,gS,gL,gK,gT,gTy,gnb,gz],_,fun _ ⟨a,b,c,d,e,f,g,i,j,_⟩=>b1g a b c d e f g i j⟩,
 ⟨[gi0,gi1,gS,gL,gK,gT,gz],_,fun _ ⟨a,b,c,d,e,f,g,_⟩=>b1k a b c d e f g⟩,
 ⟨[gi0,gi1,gS,gL,gK,gT,gTy,gb,gnz],_,fun _ ⟨a,b,c,d,e,f,g,i,j,_⟩=>b1f a b c d e f g i j⟩,
 ⟨[gi0,gi1,gS,gL,gK],_,fun _ ⟨a,b,c,d,e,_⟩=>b1j a b c d e⟩,
 ⟨[gi0,gi1,gS,gL,gK,gT,gTy,gnb,gnz],_,fun _ ⟨a,b,c,d,e,f,g,i,j,_⟩=>b1e a b c d e f g i j⟩,
 ⟨[gi0,gi1,gS,gL,gK],_,fun _ ⟨a,b,c,d,e,_⟩=>b1i a b c d e⟩,
 ⟨[fS,fin,bnz,bT],_,fun _ ⟨a,b,c,d,_⟩=>kB30 a b c d⟩,
 ⟨[(.var 4),e10X,(.ap (.typ sI) [.var 0]),(.ap (.typ .bool) [.var 4])],_,fun _ ⟨a,b,c,d,_⟩=>kS10 a b c d⟩,
 ⟨[smX (.ap .eq [(.var 0),(I 7)]) (.ap (.nil true) []) (.ap (.nil true) [])],_,fun _ h=>k47 h.1⟩,
 ⟨[fS,fin,bzz,bT],_,fun _ ⟨a,b,c,d,_⟩=>b1d a b c d⟩,
 ⟨[smX (.lit (.bool false)) (.ap (.nil true) []) (.var 8)],_,fun _ h=>k47 h.1⟩,
 ⟨[smX (.lit (.bool false)) (.ap (.nil true) []) (.ap (.nil true) [])],_,fun _ h=>k47 h.1⟩]
theorem bnh{l:List VC}{R:List Rl}(h:(l.all fun z=>R.any fun r=>memX r.c [z.2]&&r.hy.all fun x=>memX x z.1)=true):∀ z∈l,VCok U z:=by
 intro z hz σ hU hh
 obtain⟨v⟩:=σ
 cases hU
 obtain⟨r,_,hr⟩:=List.any_eq_true.1 (List.all_eq_true.1 h z hz)
 rw [Bool.and_eq_true] at hr
 have e:=List.mem_singleton.1 (@agy (@Sg.mk U v) _ _ hr.1)
 rw [← e]
 exact r.ok v (a9v hh hr.2)
set_option maxRecDepth 100000 in
theorem bvf:∀ z∈bve,VCok U z:=bnh (R:=zR) (by kernel_rfl)
end Go.Proofs.YtamhchkknlbanaaDoor.Be

namespace Go.Proofs.YtamhchkknlbanaaDoor.Be
open Go.Sx Go.Proofs
theorem u8_w{n:Int}(h1:0≤n)(h2:n≤255):IntKind.u8.wrap n=n:=by
 have:((List.range 256).all fun k=>decide (IntKind.u8.wrap (k:Int)=(k:Int)))=true:=by kernel_rfl
 have:=List.all_eq_true.1 this n.toNat (List.mem_range.2 (by omega))
 rw [decide_eq_true_eq,Int.toNat_of_nonneg h1] at this
 exact this
theorem bii{α β:Type}{f:α→β}{l:List α}:decide (([]:List β)=l.map f)=l.isEmpty:=by
 cases l<;>simp
theorem bmd{k who n a m o:Int}{is:Bool}{bv ev x7 x8 isv:CD}{r:Row5}(hr:r∈frm)(hk:r.2.1=k)(h0:0≤m)(h1:m≤255)(hi:isv=aav (is&&decide (k=7)))(hb:bv.rows=if k=8 then x7.rows else [])(he:ev.rows=if k=10 then x8.rows else []) :
  asx [vInt .i64 k,(agz k (nR k who n a m o)).getD 0 default,(agz k (nR k who n a m o)).getD 1 default,(agz k (nR k who n a m o)).getD 2 default,isv,(agz k (nR k who n a m o)).getD 3 default,(agz k (nR k who n a m o)).getD 4 default,bv,ev,vInt .i64 k,vInt .i64 who,vInt .i64 n,vInt .i64 a,aav is,vInt .u8 m,vInt .i64 o,x7,x8] = !ad9 k who n a m o is r.2.2.2.1 r.2.2.2.2 x7.rows x8.rows:=by
 have hE:∀ (q:IntKind) (x y:Int),eqC (vInt q x) (vInt q y)=decide (x=y):=fun q x y=>rfl
 have hBo:∀ x y:Bool,eqC (aav x) (aav y)=(x==y):=by
  intro x y
  cases x<;>cases y<;>rfl
 subst hk
 unfold frm at hr
 simp only [List.mem_cons,List.not_mem_nil,or_false] at hr
 have ez:∀ x:Int,decide ((0:Int)=x)=decide (x=0):=fun x=>by rw [decide_eq_decide];exact eq_comm
 unfold asx
 simp only [List.getD_cons_zero,List.getD_cons_succ,hi,hb,he,hE,hBo]
 rcases hr with rfl | rfl | rfl | rfl | rfl | rfl | rfl | rfl | rfl | rfl | rfl | rfl | rfl | rfl | rfl
 all_goals
  simp only [agz,af6,nR,nAt,ad9,leftV,hasC,intRow,u8_w h0 h1]
  simp [hE,ez,bii,aaf,u8_w h0 h1,Bool.beq_eq_decide_eq]
 all_goals
  have hi:∀ z:Int,((intRow z)[0]?.getD default).iv=z:=fun z=>rfl
  have hwm:=u8_w h0 h1
  clear hE hBo ez hb he h0 h1
  try simp only [hi,decide_true,Bool.true_and]
  try rw [Bool.eq_iff_iff]
  try simp only [Bool.and_eq_true,decide_eq_true_eq,List.isEmpty_iff,Bool.not_eq_true',beq_iff_eq,Bool.or_eq_true]
 all_goals first | grind | (cases is<;>grind) | (cases is<;>simp_all<;>grind) | skip
theorem an7{k:Int}{is:Bool}(h:(frow k is).1≠[]):(afj k is).isSome=true:=by
 obtain⟨r,hr,h1,h2,_⟩:=row_of h
 rw [h2]
 rfl
theorem btw{k:Int}{is:Bool}(h:(frow k is).1=[]):¬ (afj k is).isSome=true:=by
 unfold frow at h
 cases hw:afj k is with
 | none=>simp
 | some r =>
  rw [hw] at h
  have hm:r∈frm:=List.mem_of_find?_eq_some hw
  have:(frm.all fun r=>decide (r.1≠[]))=true:=by kernel_rfl
  have:=List.all_eq_true.1 this r hm
  rw [decide_eq_true_eq] at this
  exact absurd h this
theorem atg{k who n a m o:Int}{is:Bool}(h:(frow k is).1≠[]):(af6 k who n a m o).all inR=(fF k is).all (fun c=>inR (selV who n a m o c)):=by
 obtain⟨r,hr,h1,h2,h3,_⟩:=row_of h
 unfold fF
 rw [h1]
 subst h3
 unfold frm at hr
 simp only [List.mem_cons,List.not_mem_nil,or_false] at hr
 rcases hr with rfl | rfl | rfl | rfl | rfl | rfl | rfl | rfl | rfl | rfl | rfl | rfl | rfl | rfl | rfl<;>simp [af6,selV]
theorem bjt{k who n a m o:Int}{is:Bool}{B E:List (List CD)}(h:(frow k is).1≠[])(hl:ad9 k who n a m o is (fF k is) (rF k is) B E=false):mkS (ama (wF k is) (nR k who n a m o) (nR k who n a m o).length++(if B.isEmpty=true then [] else 32::hexT B)) E E.length=Lib.join (acp (wF k is) (fF k is) who n a m o (fF k is).length++ajs (rF k is) B E) [32]:=by
 obtain⟨r,hr,h1,h2,h3,_⟩:=row_of h
 unfold fF rF at hl
 unfold fF rF wF
 rw [h1] at hl ⊢
 subst h3
 unfold frm at hr
 simp only [List.mem_cons,List.not_mem_nil,or_false] at hr
 unfold mkS
 rw [List.take_length]
 rcases hr with rfl | rfl | rfl | rfl | rfl | rfl | rfl | rfl | rfl | rfl | rfl | rfl | rfl | rfl | rfl
 all_goals
  simp [ad9,leftV,hasC] at hl
  cases B<;>cases E<;>simp [ama,nR,af6,acp,numW,selV,ajs,Lib.join,Lib.joinTail,intRow,aaf] at hl ⊢
theorem blz{k who n a m o i:Int}{is:Bool}{B E:List (List CD)}(h:(frow k is).1≠[])(h0:0≤i)(hi:i<((af6 k who n a m o).length:Int))(hx:inR ((af6 k who n a m o).getD i.toNat 0)=false):ag6 k who n a m o is B E=([],2) :=
 bez (an7 h) (by rw [← atg h];exact by9 h0 hi hx)
theorem bqq{k who n a m o i:Int}{is:Bool}{B E:List (List CD)}(h:(frow k is).1≠[])(hi:¬ i<((af6 k who n a m o).length:Int))(hn:amf (nR k who n a m o) i.toNat=true)(hl:ad9 k who n a m o is (fF k is) (rF k is) B E=true):ag6 k who n a m o is B E=([],2) :=
 a8o (an7 h) (by rw [← atg h];exact bj9 hi hn) hl
theorem bqr{k who n a m o i:Int}{is:Bool}{B E:List (List CD)}{t:List UInt8}(h:(frow k is).1≠[])(hi:¬ i<((af6 k who n a m o).length:Int))(hn:amf (nR k who n a m o) i.toNat=true)(hl:ad9 k who n a m o is (fF k is) (rF k is) B E=false)
  (ht:mkS (ama (wF k is) (nR k who n a m o) (nR k who n a m o).length++(if B.isEmpty=true then [] else 32::hexT B)) E E.length=t) (hg:2200<t.length):ag6 k who n a m o is B E=([],3) :=
 a8p (an7 h) (by rw [← atg h];exact bj9 hi hn) hl rfl (by rw [← bjt h hl,ht];exact hg)
theorem b0c{k who n a m o i:Int}{is:Bool}{B E:List (List CD)}{t:List UInt8}(h:(frow k is).1≠[])(hi:¬ i<((af6 k who n a m o).length:Int))(hn:amf (nR k who n a m o) i.toNat=true)(hl:ad9 k who n a m o is (fF k is) (rF k is) B E=false)
  (ht:mkS (ama (wF k is) (nR k who n a m o) (nR k who n a m o).length++(if B.isEmpty=true then [] else 32::hexT B)) E E.length=t) (hg:¬ 2200<t.length):ag6 k who n a m o is B E=(t,0):=by
 have e:=bjt h hl
 rw [ht] at e
 rw [e]
 exact bm7 (an7 h) (by rw [← atg h];exact bj9 hi hn) hl rfl (by rw [← e];exact hg)
end Go.Proofs.YtamhchkknlbanaaDoor.Be
