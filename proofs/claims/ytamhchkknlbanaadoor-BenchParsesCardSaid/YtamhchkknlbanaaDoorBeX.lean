/-
  'BenchParsesCardSaid': for every input exchequerlaw32.BenchParses returns true; the input reads as it did (a tied card). Conditions: none but the given ones.
-/
import Derived.Test.YtamhchkknlbanaaDoorSqE
import Derived.Lib.LaidU8
import Derived.ChangeMaps5
import Derived.Shelf.Vars
import Derived.Test.YtamhchkknlbanaaDoorTie
import Derived.Test.YtamhchkknlbanaaDoorCards
import Derived.Handy
import Derived.Lay
import Derived.SevenTiedAt
import Derived.WalkKit
import Derived.ProofKit
import Derived.OpenShut
set_option linter.unusedSectionVars false
set_option linter.unusedSimpArgs false
set_option linter.unusedVariables false
namespace Go.Proofs.YtamhchkknlbanaaDoor
open Go.ChangeShapes Go.WideShapes Go.ChangeAt Go.RowKit Go.Sx
theorem own : ownKnob Tryd.prog.godebug = none := by kernel_rfl
theorem kids : Kids Tryd.prog (· < Tryd.prog.types.size) := kids_rows (by kernel_rfl) (by kernel_rfl)
theorem full : ∀ t e, t < Tryd.prog.types.size → Tryd.prog.underlying t = some (.slice e) → 0 < Tryd.prog.cellsOf e := slices_full_of Tryd.prog (by kernel_rfl)
theorem a0i {U : Us} {P : Program} {f : FuncId} {args : List Shp} {us : Array Value} {W : World} (h : aaq U P f ⟨args, [], [(false, [.bool])], [([], [[.lit (.bool true)]])], true⟩) (hcall : ∀ us w, (callFunc f us).run P w = .ok (.enter f us) w) (v : Nat → CD) (htw : TW W)
  (hp : @aha (memW W) args ((arw 0 args).map (@denL { toUs := U, v := v })) us.toList) : Calls P f us W fun e w' => e = .returned (.bool true) ∧ Keep W w' := by
 have h1 := h { toUs := U, v := v } rfl (memW W) W us htw (fun _ _ h => h) hp (fun x hx => (by cases hx))
 rw [hcall] at h1
 refine (show Calls P f us W _ from h1).mono fun e w' hh => ?_
 obtain ⟨u, he, hk, o, ho, hx, hres⟩ := hh
 refine ⟨?_, hk⟩
 rw [List.mem_singleton.1 ho] at hres
 obtain ⟨us', hr, hu⟩ := hres
 match us', hr with
 | [u'], hr =>
  have hr : RS (fun k ob => (W.heap.size ≤ k ∧ w'.heap[k]? = some ob ∧ Nice ob) ∨ (true = false ∧ memW W k ob)) .bool (CD.v (.bool true)) u' := hr.1
  obtain ⟨b, h2, h3⟩ := hr
  cases h2
  rw [he, hu, h3]
  rfl
theorem amx {P : Program} {W : World} {n : String} {g : Nat} {name : String} {x : DataW Unit} (hn : P.globalNamed n = some g)
  (ht : (match (P.globals[g]?).bind (fun y => P.underlying y.type) with | some (.interface _) => true | _ => false) = true) (h : Lib.VarReads P W n (.iface name x)) : ∃ o, W.heap[g]? = some o ∧ isE1 o := by
 obtain ⟨g', t, cs, fuel, p, hg, hty, hvar, hd⟩ := h
 obtain rfl := Option.some.inj (hn.symm.trans hg)
 have hcs : ∃ u v, cs.toList = [Value.iface u v] := by
  cases hgl : P.globals[g]? with
  | none => rw [hgl] at hty; cases hty
  | some y =>
   rw [hgl] at hty ht
   obtain rfl := Option.some.inj hty
   simp only [Option.bind_some] at ht
   cases fuel with
   | zero => simp [DataW.trod] at hd
   | succ k =>
    cases hu : P.underlying y.type with
    | none => rw [hu] at ht; cases ht
    | some d =>
     rw [hu] at ht
     cases d <;> first | cases ht | skip
     unfold DataW.trod at hd
     rw [hu] at hd
     split at hd <;> simp_all
 obtain ⟨u, v, hcs⟩ := hcs
 have hc2 : cs = #[Value.iface u v] := by rw [← Array.toArray_toList (xs := cs), hcs]
 subst hc2
 simp only [World.var?, hn, Option.bind_some] at hvar
 split at hvar
 ·rename_i cs t' fr hh
  cases hvar
  exact ⟨_, hh, u, v, t', fr, rfl⟩
 ·cases hvar
theorem awm {P : Program} {W : World} {n : String} {g t e m : Nat} {zs : List Int} (hn : P.globalNamed n = some g) (hty : (P.globals[g]?).map (·.type) = some t)
  (ht : P.underlying t = some (.array m e)) (he : P.underlying e = some (.int .u64)) (hce : P.cellsOf e = 1) (hct : P.cellsOf t = m) (h : Lib.VarReads P W n (Lib.tabData .u64 zs)) : ∃ o, W.heap[g]? = some o ∧ isL1 zs o := by
 obtain ⟨g', t', cs, fuel, p, hg, hty', hvar, hd⟩ := h
 obtain rfl := Option.some.inj (hn.symm.trans hg)
 obtain rfl := Option.some.inj (hty.symm.trans hty')
 have hcs := Lib.cells_of_tab ht he hce hct hd
 have hc2 : cs = (zs.map fun z => Value.int .u64 z).toArray := by rw [← Array.toArray_toList (xs := cs), hcs]
 subst hc2
 simp only [World.var?, hn, Option.bind_some] at hvar
 split at hvar
 ·rename_i cs t' fr hh
  cases hvar
  exact ⟨_, hh, t', fr, rfl⟩
 ·cases hvar
theorem awk {P : Program} {W : World} {g : Nat} {t : TypeId} {zero : Array Value} (h : W.ShapedOpen P) (hg : g < P.globals.size)
  (h0 : ((begin P (fun _ _ => 0) default).world.heap[g]?).bind Obj.row? = some (zero, t)) (hz : zero.size = 1)
  (hb : P.buildable t = true) (hc : P.cellTypes P.depth t = some [t]) (hu : P.underlying t = some (.int .i64)) : ∃ o, W.heap[g]? = some o ∧ isI1 o := by
 obtain ⟨cs, hh, hs, hr⟩ := h.1 g zero t hg h0
 obtain ⟨m, hm⟩ := cell_of_shapedOpen_int h hg h0 hz hb hc hu
 have h1 : 0 < cs.size := by omega
 have hcell : W.cell? ⟨g, 0, none⟩ = some cs[0] := by simp [World.cell?, hh, h1]
 rw [hcell] at hm
 have e0 := Option.some.inj hm
 have hc2 : cs = #[Value.int .i64 m] := by
  apply Array.ext
  ·rw [hs, hz]; rfl
  ·intro i hi hj
   have : i = 0 := by simp at hj; omega
   subst this
   exact e0
 subst hc2
 exact ⟨_, hh, m, t, _, rfl⟩
theorem a6v {W : World} (h0 : laidMetH Tryd.prog Rows.benchParsesRow.laid W) (hs : W.ShapedOpen Tryd.prog) : TW W := by
 have h : laidMet Tryd.prog Rows.benchParsesRow.laid W := by rw [← MakeChecks.laidMetH_plain Tryd.prog Rows.benchParsesRow.laid W (by kernel_rfl)]; exact h0
 have h1 := Lib.laidMet.reads h (n := "internal/strconv.uint64pow10") (d := Rows.laid_internal_strconv_uint64pow10) (by simp only [Rows.benchParsesRow, List.mem_cons, true_or, or_true])
 have h2 := Lib.laidMet.reads h (n := "strconv.ErrSyntax") (d := Rows.laid_strconv_ErrSyntax) (by simp only [Rows.benchParsesRow, List.mem_cons, true_or, or_true])
 have h3 := Lib.laidMet.reads h (n := "strconv.ErrRange") (d := Rows.laid_strconv_ErrRange) (by simp only [Rows.benchParsesRow, List.mem_cons, true_or, or_true])
 intro x hx
 simp only [a2t, List.mem_cons, List.not_mem_nil, or_false] at hx
 rcases hx with rfl | rfl | rfl | rfl
 ·exact awk (t := 3) (zero := #[.int .i64 0]) hs (Nat.le_of_ble_eq_true (by kernel_rfl)) (by kernel_rfl) rfl (by kernel_rfl) (by kernel_rfl) Tryd.underlying3
 ·exact awm (t := 117) (e := 98) (m := 20) (by kernel_rfl) (by kernel_rfl) Tryd.underlying117 Tryd.underlying98 (by kernel_rfl) (by kernel_rfl) h1
 ·exact amx (by kernel_rfl) (by kernel_rfl) h2
 ·exact amx (by kernel_rfl) (by kernel_rfl) h3
theorem aqx {H : Type} {enc : TypeId × Value → H} {a : Assume} {C : Checked} {os : Os} {f : FuncId} {fn : Func} {s : ChangeSpec} {conds : List PathCond} {apart fresh handsOn again : Bool} {X : World → Array Value → Prop}
  (hX : ∀ (w w' : World) (args : Array Value), w.heap = w'.heap → X w args → X w' args)
  (own : ownKnob C.prog.godebug = none) (started : os.Started) (noInit : C.prog.inits.idxOf? f = none) (hfn : C.prog.funcs[f]? = some fn)
  (witness : ∃ (w : World) (tape : Tape) (i : Input), w.os = os ∧ (w.forCall tape i).Shaped C.prog ∧ i.vars = [] ∧ Input.okWide C.prog (w.forCall tape i) .any w.heap.size f i ∧
   ((s.pre enc C.prog fn conds apart (w.forCall tape i).memory i.args ∧ X (w.forCall tape i).memory i.args) ∧ sizedMet enc C.prog fn (OpenSpec.ofChange s) apart (w.forCall tape i).memory i.args) ∧ a.holds C.prog (lone (Frame.enter C.prog f i.args .normal) [] (w.forCall tape i)))
  (contract : ∀ (W : World) (base : Nat) (args : Array Value) (ds gs : List (DataW H)) (before : List MemPlace),
   (∀ (j : Nat) t v, fn.params[j]? = some t → args[j]? = some v → Value.okWide C.prog W .any base t v) →
   DataW.Whole enc C.prog fn.params.toList s.vars apart W args.toList ds gs before →
   conds.all (PathCond.test C.prog ⟨fn.params.toList, ds, s.plain.varTypes C.prog, gs⟩) = true →
   (DataW.weightsEach C.prog (fn.params.toList ++ s.plain.varTypes C.prog) (ds ++ gs)).all (· ≤ reachBytes) = true → X W args →
   W.ShapedOpen C.prog →
   Calls C.prog f args W fun e W' => ∃ v, e = .returned v ∧ s.post enc C.prog fn apart fresh handsOn again W args v W') :
  ReturnsInHanded a C os f .any (fun w args => (s.pre enc C.prog fn conds apart w args ∧ X w args) ∧ sizedMet enc C.prog fn (OpenSpec.ofChange s) apart w args) (s.post enc C.prog fn apart fresh handsOn again) := by
 refine returnsInHanded_of_calls own started noInit witness ?_
 intro w tape i _ hsh _ hok hpre hholds
 obtain ⟨_, _, _, fn', hfn', _, _, _, _, hval⟩ := hok
 have e : fn' = fn := Option.some.inj (hfn'.symm.trans hfn)
 subst e
 obtain ⟨⟨⟨ds, gs, before, hw, hc⟩, hx⟩, hz⟩ := hpre
 have hw' := DataW.Whole.of_heap (w' := w.forCall tape i) (by rfl) hw
 refine (contract (w.forCall tape i) w.heap.size i.args ds gs before hval hw' hc (hz.weights hw) (hX _ _ _ (by rfl) hx) hsh).mono fun e W' ⟨v, he, hp⟩ => ?_
 subst he
 exact ChangeSpec.post_blind hp
set_option maxRecDepth 100000 in
theorem aia (os : Os) (started : os.Started) (H : Type) (enc : TypeId × Value → H) :
  ReturnsInHanded {} Tryd.checked os 3 .any (fun w args => (Rows.benchParsesSpec.pre enc Tryd.prog Tryd.f3 [] false w args ∧ laidMetH Tryd.prog Rows.benchParsesRow.laid w) ∧ sizedMet enc Tryd.prog Tryd.f3 (OpenSpec.ofChange Rows.benchParsesSpec) false w args)
   (Rows.benchParsesSpec.post enc Tryd.prog Tryd.f3 false true false false) := by
 refine aqx (C := Tryd.checked) (X := fun w _ => laidMetH Tryd.prog Rows.benchParsesRow.laid w) (fun _ _ _ hh h => h.of_heap hh) own started (by kernel_rfl) Tryd.func3
  (ChangeSpec.witness_shaped (enc := enc) (C := Tryd.checked) (os := os) (X := fun w _ => laidMetH Tryd.prog Rows.benchParsesRow.laid w) false (World.laidAll Tryd.prog os Rows.benchParsesRow.laid) #[.string ⟨#[]⟩] 8 (World.laidAll_os _ _ _)
   (World.shaped_of_ZipB (by kernel_rfl) (by kernel_rfl)) (by kernel_rfl) (by kernel_rfl) (by kernel_rfl)
   (by rw [MakeChecks.laidMetH_plain _ _ _ (by kernel_rfl)]; exact laidMet_laidAll _ (by kernel_rfl) (by kernel_rfl))) ?_
 intro W base args ds gs before hval0 hW _ _ hX hsh
 have hval : ∀ (j : Nat) t v, Tryd.f3.params[j]? = some t → args[j]? = some v → Value.okWide Tryd.prog W .any base t v := hval0
 have hW' := hW
 obtain ⟨p, q, hA0, hV, rfl, hfz, hnd⟩ := hW
 have hA : DataW.TrodAll enc Tryd.prog W 0 (fun _ => true) true Tryd.f3.params.toList args.toList ds p := hA0
 have hAk := hA
 rw [Tryd.params3] at hA hval
 obtain ⟨v0, vs0, d0, ds0, p0, q0, hargs, rfl, rfl, h0, r0⟩ := trodAll_cons hA
 obtain ⟨rfl, rfl, rfl⟩ := trodAll_nil r0
 obtain rfl : args = #[v0] := by cases args; simp_all
 obtain ⟨rfl, rfl⟩ := trodVars_none hV
 obtain ⟨st, rfl, rfl, rfl, hsz⟩ := Go.ChangeMaps.open_string Tryd.underlying9 (hval 0 9 v0 rfl rfl) h0
 have he : RS (memW W) .str (CD.v (.string st)) (.string st) := ⟨st, rfl, rfl, by unfold maxLen at hsz; omega⟩
 clear hA0 hval0
 simp only [List.append_nil] at hW'
 refine (a0i (us := #[.string st]) (W := W) Be.c3 at3.call (fun j => [CD.v (.string st)].getD j default) (a6v hX hsh) ⟨he, trivial⟩).mono fun e W' ⟨he, hg⟩ => ?_
 subst he
 exact ⟨_, rfl, awq (pv := []) hW' (fun _ _ _ => (trodAll_cons_mk (shut_bool Tryd.underlying4 _) trodAll_mk0)) (fun sp hsp => TrodAll.old hg.old (DataW.TrodAll.respare kids full (by rw [Tryd.params3]; decide +kernel) hAk (fun p hp => hsp p (by simp at hp)))) (fun _ _ => rfl) (by simp)
  hg.old hg.os hg.output (ok_one (by kernel_rfl) rfl (okWide_bool_mk Tryd.underlying4 _))⟩
theorem alc : Rows.BenchParsesSaid :=
 OpenClaim.holds_of_wide 3 Tryd.f3 rfl rfl rfl rfl rfl rfl rfl ⟨rfl, rfl, rfl, rfl, rfl⟩ rfl rfl rfl rfl rfl (by kernel_rfl) Tryd.func3 (by kernel_rfl)
  (of_decide_eq_true (by kernel_rfl)) (by unfold Func.isWrapper; first | (rw [if_pos (by decide +kernel)]; kernel_rfl) | (rw [if_neg (by decide +kernel)]; exact ⟨rfl, rfl⟩))
  (fun os started H enc _ => aia os started H enc)
theorem benchParses : Rows.BenchParsesCardSaid :=
 Claim7.holds_tied_plain_at .later [] [.data, .data, .data, .data, .sentinel, .sentinel, .pinned] true (true, "369914c67c7c728ebd9ee9220aed351f4a5de5ef306f4d75731c54d34570bea5") true alc (fun _ h => by cases h) (by kernel_rfl) (fun _ h => by cases h) benchParses_row_tie rfl ⟨rfl, rfl⟩ (by kernel_rfl) rfl
  (fun f fn hf hfn => by
   obtain rfl : f = 3 := Option.some.inj ((show Tryd.prog.funcNamed "exchequer/exchequerlaw32.BenchParses" = some 3 by kernel_rfl).symm.trans hf) |>.symm
   obtain rfl : fn = Tryd.f3 := (Option.some.inj (Tryd.func3.symm.trans hfn)).symm
   exact ⟨by kernel_rfl, fun j t ht => by
    rw [Tryd.params3] at ht
    have hm : t ∈ [9] := by simpa using Array.mem_of_getElem? ht
    have hall : ([9].all fun u => !Tryd.prog.wantsStandIn u) = true := by kernel_rfl
    exact (show Tryd.prog.wantsStandIn t = false by simpa using List.all_eq_true.1 hall t hm)⟩)
  (by kernel_rfl)
#print axioms benchParses
end Go.Proofs.YtamhchkknlbanaaDoor
