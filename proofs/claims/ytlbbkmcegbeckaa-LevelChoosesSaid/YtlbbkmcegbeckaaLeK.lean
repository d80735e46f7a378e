/-
  'LevelChoosesSaid': for every input exchequerlaw15.LevelChooses returns true; the input reads as it did. Conditions: none but the given ones.
-/
import Derived.Test.YtlbbkmcegbeckaaSqE
import Derived.WalkKit
import Derived.ProofKit
import Derived.OpenShut
set_option linter.all false
set_option maxRecDepth 100000
noncomputable section
namespace Go.Proofs.Ytlbbkmcegbeckaa
open Go.ChangeShapes Go.WideShapes Go.ChangeAt Go.RowKit Go.Sx
theorem own:ownKnob Try.prog.godebug=none:=by kernel_rfl
theorem kids:Kids Try.prog (· < Try.prog.types.size):=kids_rows (by kernel_rfl) (by kernel_rfl)
theorem full:∀ t e,t<Try.prog.types.size→Try.prog.underlying t=some (.slice e)→0<Try.prog.cellsOf e:=slices_full_of Try.prog (by kernel_rfl)
theorem b0y:srtP Try.prog 6 22=some [sLev]:=by kernel_rfl
theorem b1h:srtP Try.prog 6 36=some [sR]:=by kernel_rfl
theorem intT:srtP Try.prog 6 3=some [.int .i64]:=by kernel_rfl
theorem b1d:srtP Try.prog 6 45=some sPl:=by kernel_rfl
theorem br6{w w':World}(h:Below w.heap.size w w'):Keep w w':=⟨h.block,h.size,h.os,h.tape,h.output⟩
theorem bj0{m:Mem}:∀ {ss:List Srt} {row:List CD} {f:Nat→Option Value},RSs m ss row f→row.length=ss.length
 | [],row,f,h=>by rw [show row=[] from h];rfl
 | s::ss,row,f,⟨c,r,u,e,_,_,h⟩=>by rw [e,List.length_cons,bj0 h,List.length_cons]
theorem bjg{H:Type}{enc:TypeId×Value→H}{W:World}{v:Value}{d:DataW H}{ps:List MemPlace}{t:TypeId}{s:Srt}(hs:srtP Try.prog 6 t=some [s])(h:DataW.Trod enc Try.prog W 0 (fun _=>true) true t v d ps)(hv:∃ a n c,v=.slice a n c):∃ e:CD,RS (Go.Sx.memW W) s e v:=by
 obtain⟨fuel,hf⟩:=h
 obtain⟨a,n,c,rfl⟩:=hv
 obtain⟨_,ds,e,r,u,_,h2,h3,_⟩:=apl 6 hs hf
 cases h2
 exact⟨e,h3⟩
theorem bnr{H:Type}{enc:TypeId×Value→H}{W:World}{v:Value}{d:DataW H}{ps:List MemPlace}{t:TypeId}(hs:srtP Try.prog 6 t=some [.int .i64])(h:DataW.Trod enc Try.prog W 0 (fun _=>true) true t v d ps)(hv:∃ n,v=.int .i64 n):∃ n:Int,v=.int .i64 n∧RS (Go.Sx.memW W) (.int .i64) (vInt .i64 n) (.int .i64 n):=by
 obtain⟨fuel,hf⟩:=h
 obtain⟨n,rfl⟩:=hv
 obtain⟨_,ds,e,r,u,_,h2,h3,_⟩:=apl 6 hs hf
 cases h2
 obtain⟨n',rfl,e2,h4⟩:=h3
 cases e2
 exact⟨n,rfl,n,rfl,rfl,h4⟩
theorem bjf{H:Type}{enc:TypeId×Value→H}{W:World}{v:Value}{d:DataW H}{ps:List MemPlace}(h:DataW.Trod enc Try.prog W 0 (fun _=>true) true 45 v d ps)(hv:∃ cs,v=.agg cs):∃ d0 d1 d2 d3:CD,afi (Go.Sx.memW W) (true,sPl) [d0,d1,d2,d3] v:=by
 obtain⟨fuel,hf⟩:=h
 obtain⟨cs,rfl⟩:=hv
 obtain⟨hl,ds,hd⟩:=apl 6 b1d hf
 have hl:cs.toList.length=4:=hl
 have hlen:=bj0 hd
 match ds,hlen,hd with
 | [d0,d1,d2,d3],_,hd =>
  refine⟨d0,d1,d2,d3,cs,rfl,by simpa using hl,?_⟩
  have e:(fun j:Nat=>cs.toList[j]?)=fun j:Nat=>cs[j]?:=by
   funext j
   simp
  rw [← e]
  exact hd
theorem am7(os:Os)(started:os.Started)(H:Type)(enc:TypeId×Value→H) :
  ReturnsInHanded {} Try.checked os 4 .any (Rows.levelChoosesSpec.pre6 enc Try.prog Try.f4 Rows.levelChoosesRow.domain false) (Rows.levelChoosesSpec.post enc Try.prog Try.f4 false true false false):=by
 refine returnsInHanded_of_change (C:=Try.checked) own started (by kernel_rfl) Try.func4
  (ChangeSpec.witness6 (enc:=enc) (C:=Try.checked) false ⟨#[],#[.slice none 0 0,.int .i64 0,.agg #[.int .i64 0,.slice none 0 0,.slice none 0 0,.bool false],.slice none 0 0],[]⟩ 8 (by kernel_rfl) (by kernel_rfl) (by kernel_rfl) (by kernel_rfl)) ?_
 intro W base args ds gs before hval0 hW hcnd _
 have hval:∀ (j:Nat) t v,Try.f4.params[j]? = some t→args[j]? = some v→Value.okWide Try.prog W .any base t v:=hval0
 have hW':=hW
 obtain⟨p,q,hA0,hV,rfl,hfz,hnd⟩:=hW
 have hA:DataW.TrodAll enc Try.prog W 0 (fun _=>true) true Try.f4.params.toList args.toList ds p:=hA0
 have hAk:=hA
 rw [Try.params4] at hA hval
 obtain⟨v0,vs0,d0,ds0,p0,q0,hargs,rfl,rfl,h0,r0⟩:=trodAll_cons hA
 obtain⟨v1,vs1,d1,ds1,p1,q1,rfl,rfl,rfl,h1,r1⟩:=trodAll_cons r0
 obtain⟨v2,vs2,d2,ds2,p2,q2,rfl,rfl,rfl,h2,r2⟩:=trodAll_cons r1
 obtain⟨v3,vs3,d3,ds3,p3,q3,rfl,rfl,rfl,h3,r3⟩:=trodAll_cons r2
 obtain⟨rfl,rfl,rfl⟩:=trodAll_nil r3
 obtain rfl:args = #[v0,v1,v2,v3]:=by cases args;simp_all
 obtain⟨rfl,rfl⟩:=trodVars_none hV
 obtain⟨L,hL⟩:=bjg b0y h0 (okWide_slice Try.underlying22 (hval 0 22 v0 rfl rfl))
 obtain⟨n,rfl,hn⟩:=bnr intT h1 (okWide_int Try.underlying3 (hval 1 3 v1 rfl rfl))
 obtain⟨cs,hcs,_⟩:=okWide_struct Try.underlying45 (hval 2 45 v2 rfl rfl)
 obtain⟨d0',d1',d2',d3',hr⟩:=bjf h2 ⟨cs,hcs⟩
 obtain⟨m,ap,np,cp,aq,nq,cq,bp,rfl,rfl,rfl,hm,hFp,hIp⟩:=a97 hr
 obtain⟨ar,nr,cr,rfl⟩:=okWide_slice Try.underlying36 (hval 3 36 v3 rfl rfl)
 obtain⟨Fr,hFr⟩:=bjg b1h h3 ⟨ar,nr,cr,rfl⟩
 clear hA0 hval0
 simp only [List.append_nil] at hW'
 refine(a1i hL hn hm hFp hIp hFr).mono fun e W' ⟨he,hg0⟩=>?_
 have hg:=br6 hg0
 subst he
 exact⟨_,rfl,a99 (pv:=[]) hW' (fun _ _ _=>(trodAll_cons_mk (shut_bool Try.underlying4 _) trodAll_mk0)) (fun sp hsp=>TrodAll.old hg.old (DataW.TrodAll.respare kids full (by rw [Try.params4];decide +kernel) hAk (fun p hp=>hsp p (by simpa using hp)))) (fun _ _=>rfl) (by simp)
  hg.old hg.os hg.output (ok_one (by kernel_rfl) rfl (okWide_bool_mk Try.underlying4 _))⟩
theorem levelChooses:Rows.LevelChoosesSaid :=
 OpenClaim.holds_of_wide 4 Try.f4 rfl rfl rfl rfl rfl rfl rfl ⟨rfl,rfl,rfl,rfl,rfl⟩ rfl rfl rfl rfl rfl (by kernel_rfl) Try.func4 (by kernel_rfl)
  (of_decide_eq_true (by kernel_rfl)) (by unfold Func.isWrapper;first | (rw [if_pos (by decide +kernel)];kernel_rfl) | (rw [if_neg (by decide +kernel)];exact⟨rfl,rfl⟩))
  (fun os started H enc _=>am7 os started H enc)
#print axioms levelChooses
end Go.Proofs.Ytlbbkmcegbeckaa
