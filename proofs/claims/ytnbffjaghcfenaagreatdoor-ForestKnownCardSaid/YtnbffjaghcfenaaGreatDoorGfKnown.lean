/-
  Arguments of types that are integers and structs of integers: what they are, and that their reading leans on no memory. Conditions: none; nothing here speaks of one program.
  'ForestNoneCardSaid': for every input exchequerlaw16.ForestNone returns true (a tied card). Conditions: none but the given ones.
  'ForestKnownCardSaid': exchequerlaw16.ForestKnown returns true (a tied card). Conditions: none but the given ones.
-/
import Derived.Test.YtnbffjaghcfenaaGreatDoorGfBaseO
import Derived.ProofKit
import Derived.OpenShut
import Derived.Test.YtnbffjaghcfenaaGreatDoorGfAwk
import Derived.Test.YtnbffjaghcfenaaGreatDoorTie
import Derived.Test.YtnbffjaghcfenaaGreatDoorCards
import Derived.Handy
import Derived.Lay
import Derived.SevenTiedAt
import Derived.WalkKit
import Derived.Test.YtnbffjaghcfenaaGreatDoorGfRun3
namespace Go.Fv
open Go.ChangeShapes Go.WideShapes
variable {P : Program}

/-- Values that are integers of these kinds, within them. -/
def IntsAre : List IntKind → List Value → List Int → Prop
  | [], [], [] => True
  | k :: ks, v :: vs, n :: ns => v = .int k n ∧ (Lit.int k n).wf = true ∧ IntsAre ks vs ns
  | _, _, _ => False

theorem IntsAre.append : ∀ {ks ks' : List IntKind} {vs vs' : List Value} {ns ns' : List Int}, IntsAre ks vs ns → IntsAre ks' vs' ns' → IntsAre (ks ++ ks') (vs ++ vs') (ns ++ ns')
  | [], _, [], _, [], _, _, h => h
  | _ :: _, _, _ :: _, _, _ :: _, _, ⟨h1, h2, h3⟩, h => ⟨h1, h2, h3.append h⟩
  | [], _, _ :: _, _, _, _, h, _ => h.elim
  | [], _, [], _, _ :: _, _, h, _ => h.elim
  | _ :: _, _, [], _, _, _, h, _ => h.elim
  | _ :: _, _, _ :: _, _, [], _, h, _ => h.elim

theorem IntsAre.cons {k : IntKind} {ks : List IntKind} {vs : List Value} {ns : List Int} (h : IntsAre (k :: ks) vs ns) : ∃ n vs' ns', vs = .int k n :: vs' ∧ ns = n :: ns' ∧ (Lit.int k n).wf = true ∧ IntsAre ks vs' ns' := by
  match vs, ns, h with
  | _ :: vs, n :: ns, ⟨rfl, h1, h2⟩ => exact ⟨n, vs, ns, rfl, rfl, h1, h2⟩
theorem IntsAre.nil {vs : List Value} {ns : List Int} (h : IntsAre [] vs ns) : vs = [] ∧ ns = [] := by
  match vs, ns, h with
  | [], [], _ => exact ⟨rfl, rfl⟩

theorem IntsAre.length : ∀ {ks : List IntKind} {vs : List Value} {ns : List Int}, IntsAre ks vs ns → vs.length = ks.length
  | [], [], [], _ => rfl
  | _ :: _, _ :: _, _ :: _, ⟨_, _, h⟩ => by simp only [List.length_cons]; rw [h.length]
  | [], _ :: _, _, h => h.elim
  | [], [], _ :: _, h => h.elim
  | _ :: _, [], _, h => h.elim
  | _ :: _, _ :: _, [], h => h.elim

def flatFs (P : Program) (rec : TypeId → Option (List IntKind)) : Nat → List Field → Option (List IntKind)
  | _, [] => some []
  | off, f :: fs => match rec f.type with
    | some ks => if f.offset = off ∧ P.cellsOf f.type = ks.length then (flatFs P rec (off + ks.length) fs).map (ks ++ ·) else none
    | none => none

/-- The kinds of the integers that a value of a type is made of. -/
def flatT (P : Program) : Nat → TypeId → Option (List IntKind)
  | 0, _ => none
  | n + 1, t => match P.underlying t with
    | some (.int k) => some [k]
    | some (.struct fs) => match flatFs P (flatT P n) 0 fs.toList with
      | some ks => if P.cellsOf t = ks.length then some ks else none
      | none => none
    | _ => none

theorem flatFs_ints {rec : TypeId → Option (List IntKind)} {cs : List Value} : ∀ (fs : List Field) {off : Nat} {ks : List IntKind}, flatFs P rec off fs = some ks →
    (∀ f ∈ fs, ∀ ks', rec f.type = some ks' → ∃ ns, IntsAre ks' ((cs.drop f.offset).take (P.cellsOf f.type)) ns) → ∃ ns, IntsAre ks ((cs.drop off).take ks.length) ns
  | [], off, ks, h, _ => by cases h; exact ⟨[], by simp [IntsAre]⟩
  | f :: fs, off, ks, h, hr => by
    simp only [flatFs] at h
    cases hk : rec f.type with
    | none => rw [hk] at h; cases h
    | some k1 =>
      rw [hk] at h
      simp only at h
      split at h
      · rename_i hc
        obtain ⟨k2, hk2, rfl⟩ := map_some h
        obtain ⟨n2, h2⟩ := flatFs_ints fs hk2 fun g hg => hr g (List.mem_cons_of_mem _ hg)
        obtain ⟨n1, h1⟩ := hr f (List.mem_cons_self ..) k1 hk
        rw [hc.1, hc.2] at h1
        refine ⟨n1 ++ n2, ?_⟩
        have e : (cs.drop off).take (k1 ++ k2).length = (cs.drop off).take k1.length ++ (cs.drop (off + k1.length)).take k2.length := by
          rw [List.length_append, List.take_add, List.drop_drop]
        rw [e]
        exact h1.append h2
      · cases h

theorem flatFs_mem {rec : TypeId → Option (List IntKind)} : ∀ (fs : List Field) {off : Nat} {ks : List IntKind}, flatFs P rec off fs = some ks → ∀ f ∈ fs, ∃ k, rec f.type = some k
  | [], _, _, _, f, hf => by cases hf
  | g :: fs, off, ks, h, f, hf => by
    simp only [flatFs] at h
    cases hk : rec g.type with
    | none => rw [hk] at h; cases h
    | some k1 =>
      rw [hk] at h
      simp only at h
      split at h
      · obtain ⟨k2, hk2, _⟩ := map_some h
        rcases List.mem_cons.1 hf with rfl | hf
        · exact ⟨k1, hk⟩
        · exact flatFs_mem fs hk2 f hf
      · cases h

theorem mapM_mem {α β : Type} {g : α → Option β} : ∀ {l : List α} {xs : List β}, l.mapM g = some xs → ∀ a ∈ l, ∃ x ∈ xs, g a = some x
  | [], _, _, a, ha => by cases ha
  | b :: l, xs, h, a, ha => by
    simp only [List.mapM_cons, Option.bind_eq_bind, Option.bind_eq_some_iff, Option.pure_def, Option.some.injEq] at h
    obtain ⟨y, hy, ys, hys, rfl⟩ := h
    rcases List.mem_cons.1 ha with rfl | ha
    · exact ⟨y, List.mem_cons_self .., hy⟩
    · obtain ⟨x, hx, hgx⟩ := mapM_mem hys a ha
      exact ⟨x, List.mem_cons_of_mem _ hx, hgx⟩
theorem mapM_from {α β : Type} {g : α → Option β} : ∀ {l : List α} {xs : List β}, l.mapM g = some xs → ∀ x ∈ xs, ∃ a ∈ l, g a = some x
  | [], xs, h, x, hx => by cases h; cases hx
  | b :: l, xs, h, x, hx => by
    simp only [List.mapM_cons, Option.bind_eq_bind, Option.bind_eq_some_iff, Option.pure_def, Option.some.injEq] at h
    obtain ⟨y, hy, ys, hys, rfl⟩ := h
    rcases List.mem_cons.1 hx with rfl | hx
    · exact ⟨b, List.mem_cons_self .., hy⟩
    · obtain ⟨a, ha, hga⟩ := mapM_from hys x hx
      exact ⟨a, List.mem_cons_of_mem _ ha, hga⟩
theorem mapM_same {α β : Type} {g g' : α → Option β} : ∀ {l : List α} {xs : List β}, l.mapM g = some xs → (∀ a ∈ l, ∀ x, g a = some x → g' a = some x) → l.mapM g' = some xs
  | [], xs, h, _ => h
  | b :: l, xs, h, hg => by
    simp only [List.mapM_cons, Option.bind_eq_bind, Option.bind_eq_some_iff, Option.pure_def, Option.some.injEq] at h ⊢
    obtain ⟨y, hy, ys, hys, rfl⟩ := h
    exact ⟨y, hg b (List.mem_cons_self ..) y hy, ys, mapM_same hys fun a ha => hg a (List.mem_cons_of_mem _ ha), rfl⟩

section
variable {H : Type} {enc : TypeId × Value → H} {w : World} {base : Nat} {sp : Nat → Bool} {held : Bool}

theorem flat_trod : ∀ (n : Nat) {t : TypeId} {ks : List IntKind}, flatT P n t = some ks → ∀ {fuel : Nat} {cs : List Value} {x : DataW H × List MemPlace}, DataW.trod enc P w base sp held fuel t cs = some x →
    x.2 = [] ∧ (∃ ns, IntsAre ks cs ns) ∧ ∀ w' base' sp' held', DataW.trod enc P w' base' sp' held' fuel t cs = some x
  | 0, _, _, h, _, _, _, _ => by cases h
  | n + 1, t, ks, h, fuel, cs, x, hx => by
    simp only [flatT] at h
    split at h
    · rename_i k hu
      cases h
      cases fuel with
      | zero => simp [DataW.trod] at hx
      | succ m =>
        obtain ⟨i, rfl, rfl, hw⟩ := DataW.trod_int hu hx
        exact ⟨rfl, ⟨[i], rfl, hw, trivial⟩, fun w' base' sp' held' => by simp [DataW.trod, hu, hw]⟩
    · rename_i fs hu
      split at h
      · rename_i ks' hks
        split at h
        · rename_i hc
          cases h
          cases fuel with
          | zero => simp [DataW.trod] at hx
          | succ m =>
            have hx' := hx
            unfold DataW.trod at hx'
            rw [hu] at hx'
            have hl : cs.length = P.cellsOf t ∧ ∃ xs, fs.toList.mapM (fun f => DataW.trod enc P w base sp held m f.type ((cs.drop f.offset).take (P.cellsOf f.type))) = some xs ∧ x = (.agg (xs.map (·.1)), xs.flatMap (·.2)) := by
              obtain ⟨xs, n', hn, hx2, hl2, hlen, hget⟩ := DataW.trod_struct hu hx
              refine ⟨hl2, ?_⟩
              split at hx' <;> simp_all
              obtain ⟨a, h1, h2, h3⟩ := hx'
              exact ⟨a, h1, h2.symm, h3.symm⟩
            obtain ⟨hl, xs, hp, rfl⟩ := hl
            have hrec : ∀ f ∈ fs.toList, ∀ k1, flatT P n f.type = some k1 → ∀ y, DataW.trod enc P w base sp held m f.type ((cs.drop f.offset).take (P.cellsOf f.type)) = some y → _ := fun f _ k1 hk1 y hy => flat_trod n hk1 hy
            refine ⟨?_, ?_, fun w' base' sp' held' => ?_⟩
            · show xs.flatMap (·.2) = []
              rw [List.flatMap_eq_nil_iff]
              intro y hy
              obtain ⟨f, hf, hfy⟩ := mapM_from hp y hy
              obtain ⟨k1, hk1⟩ := flatFs_mem _ hks f hf
              exact (hrec f hf k1 hk1 y hfy).1
            · have := flatFs_ints (P := P) (cs := cs) fs.toList hks fun f hf k1 hk1 => by
                obtain ⟨y, _, hfy⟩ := mapM_mem hp f hf
                exact (hrec f hf k1 hk1 y hfy).2.1
              rw [List.drop_zero, ← hc, ← hl, List.take_length] at this
              exact this
            · refine trod_struct_mk hu hl (mapM_same hp fun f hf y hfy => ?_)
              obtain ⟨k1, hk1⟩ := flatFs_mem _ hks f hf
              exact (hrec f hf k1 hk1 y hfy).2.2 w' base' sp' held'
        · cases h
      · cases h
    · cases h

/-- A struct of integers as an argument. -/
theorem open_flat {t : TypeId} {fs : Array Field} {n : Nat} {ks : List IntKind} (hu : P.underlying t = some (.struct fs)) (hk : flatT P n t = some ks) {r : Go.Reach} {b0 : Nat} {w0 : World} {v : Value} {d : DataW H} {ps : List MemPlace}
    (hval : Value.okWide P w0 r b0 t v) (hd : DataW.Trod enc P w base sp held t v d ps) :
    ps = [] ∧ (∃ vs ns, v = .agg vs ∧ IntsAre ks vs.toList ns) ∧ ∀ w' base' sp' held', DataW.Trod enc P w' base' sp' held' t v d [] := by
  obtain ⟨cs, rfl, _⟩ := okWide_struct hu hval
  obtain ⟨fuel, hf⟩ := hd
  obtain ⟨h1, ⟨ns, h2⟩, h3⟩ := flat_trod n hk hf
  have h1' : ps = [] := h1
  subst h1'
  exact ⟨rfl, ⟨cs, ns, rfl, h2⟩, fun w' base' sp' held' => ⟨fuel, h3 w' base' sp' held'⟩⟩
end

/-- Such an argument for the evaluator. -/
def litsI : List IntKind → List Int → List Cel
  | k :: ks, n :: ns => .lit (.int k n) :: litsI ks ns
  | _, _ => []

theorem IntsAre.rel {ρ : PM} : ∀ {ks : List IntKind} {vs : List Value} {ns : List Int}, IntsAre ks vs ns → All2 (CRel ρ) (litsI ks ns) vs
  | [], [], [], _ => trivial
  | _ :: _, _ :: _, _ :: _, ⟨h1, h2, h3⟩ => ⟨⟨h1, h2⟩, h3.rel⟩
  | [], _ :: _, _, h => h.elim
  | [], [], _ :: _, h => h.elim
  | _ :: _, [], _, h => h.elim
  | _ :: _, _ :: _, [], h => h.elim
end Go.Fv

set_option linter.unusedVariables false
namespace Go.Proofs.YtnbffjaghcfenaaGreatDoor
open Go.ChangeShapes Go.WideShapes Go.ChangeAt Go.RowKit Go.Fv

theorem own_forestNone : ownKnob Tryz.prog.godebug = none := by kernel_rfl

theorem forestNone_run : allTrue (oraN Tryz.prog (treeT tbl) baseA 1000 60 (.f 4) [.one .us, .agg [.un .i64, .un .i64]] emptyH) = true := by kernel_rfl

theorem forestNone_walk (us : Array Value) (hus : All2 (VRel fun _ => none) [.one .us, .agg [.un .i64, .un .i64]] us.toList) (w : World) (ht : ∀ B o, globG = some (B, o) → TabG w B o) :
    Calls Tryz.prog 4 us w fun e w' => e = .returned (.bool true) ∧ (∀ k, k < w.heap.size → w'.heap[k]? = w.heap[k]?) ∧ w.heap.size ≤ w'.heap.size ∧ w'.os = w.os ∧ w'.output = w.output ∧ w'.tape = w.tape := by
  obtain ⟨outs, h1, h2⟩ := allTrue_spec forestNone_run
  exact (closed_ok mixed tbl_ok baseA_ok h1).walk h2 hus Tryz.call4 w ht
theorem tab_of_row {W : World} {l : List (String × DataW Unit)} (hl : l = [("math/bits.deBruijn64tab", Rows.laid_math_bits_deBruijn64tab)]) (h : laidMetH Tryz.prog l W) : ∀ B o, globG = some (B, o) → TabG W B o := by
  subst hl
  rw [MakeChecks.laidMetH_plain _ _ _ (by kernel_rfl)] at h
  intro B o hg
  have ht := tab_of_laid h (List.mem_singleton.2 (congrArg (Prod.mk "math/bits.deBruijn64tab") (by kernel_rfl)))
  rw [globG_eq] at hg
  cases hg
  exact ht

set_option maxRecDepth 100000 in
theorem forestNone_lifted (os : Os) (started : os.Started) (H : Type) (enc : TypeId × Value → H) :
    ReturnsInHanded {} Tryz.checked os 4 .any (fun w args => (Rows.forestNoneSpec.pre enc Tryz.prog Tryz.f4 [] false w args ∧ laidMetH Tryz.prog Rows.forestNoneRow.laid w) ∧ sizedMet enc Tryz.prog Tryz.f4 (OpenSpec.ofChange Rows.forestNoneSpec) false w args)
      (Rows.forestNoneSpec.post enc Tryz.prog Tryz.f4 false true false false) := by
  refine returnsInHanded_of_change_and (C := Tryz.checked) (X := fun w _ => laidMetH Tryz.prog Rows.forestNoneRow.laid w) (fun _ _ _ hh h => h.of_heap hh) own_forestNone started (by kernel_rfl) Tryz.func4
    (ChangeSpec.witness_shaped (enc := enc) (C := Tryz.checked) (os := os) (X := fun w _ => laidMetH Tryz.prog Rows.forestNoneRow.laid w) false (World.laidAll Tryz.prog os Rows.forestNoneRow.laid) #[.slice none 0 0, .agg #[.int .i64 0, .int .i64 0]] 8 (World.laidAll_os _ _ _)
      (World.shaped_of_ZipB (by kernel_rfl) (by kernel_rfl)) (by kernel_rfl) (by kernel_rfl) (by kernel_rfl)
      (by rw [MakeChecks.laidMetH_plain _ _ _ (by kernel_rfl)]; exact laidMet_laidAll _ (by kernel_rfl) (by kernel_rfl))) ?_
  intro W base args ds gs before hval0 hW _ _ hX _
  have hval : ∀ (j : Nat) t v, Tryz.f4.params[j]? = some t → args[j]? = some v → Value.okWide Tryz.prog W .any base t v := hval0
  have hW' := hW
  obtain ⟨p, q, hA0, hV, rfl, hfz, hnd⟩ := hW
  have hA : DataW.TrodAll enc Tryz.prog W 0 (fun _ => true) true Tryz.f4.params.toList args.toList ds p := hA0
  have hAk := hA
  rw [Tryz.params4] at hA hval
  obtain ⟨v0, vs0, d0, ds0, p0, q0, hargs, rfl, rfl, h0, r0⟩ := trodAll_cons hA
  obtain ⟨v1, vs1, d1, ds1, p1, q1, rfl, rfl, rfl, h1, r1⟩ := trodAll_cons r0
  obtain ⟨rfl, rfl, rfl⟩ := trodAll_nil r1
  obtain rfl : args = #[v0, v1] := by cases args; simp_all
  obtain ⟨rfl, rfl⟩ := trodVars_none hV
  obtain ⟨a, n, c, rfl⟩ := okWide_slice Tryz.underlying36 (hval 0 36 v0 rfl rfl)
  have hn := slice_len Tryz.underlying36 h0
  obtain ⟨rfl, ⟨a1, n1, rfl, hI1⟩, sh1⟩ := open_flat Tryz.underlying27 (n := 5) (ks := [.i64, .i64]) (by kernel_rfl) (hval 1 27 v1 rfl rfl) h1
  obtain ⟨x0, y0, z0, hy0, rfl, wx0, k0⟩ := IntsAre.cons hI1
  obtain ⟨x1, y1, z1, rfl, rfl, wx1, k1⟩ := IntsAre.cons k0
  obtain ⟨rfl, rfl⟩ := IntsAre.nil k1
  clear hA0 hval0
  simp only [List.append_nil] at hW'
  refine (forestNone_walk #[.slice a n c, .agg a1] ⟨⟨a, n, c, rfl, hn⟩, ⟨a1, rfl, by rw [hy0]; exact ⟨⟨x0, rfl, wx0⟩, ⟨x1, rfl, wx1⟩, trivial⟩⟩, trivial⟩ W (tab_of_row rfl hX)).mono fun e W' ⟨he, hg⟩ => ?_
  subst he
  exact ⟨_, rfl, post_of_old (pv := []) hW' (fun _ _ _ => (trodAll_cons_mk (shut_bool Tryz.underlying4 _) trodAll_mk0)) (fun sp hsp => TrodAll.old hg.1 (DataW.TrodAll.respare kids full (by rw [Tryz.params4]; decide +kernel) hAk (fun p hp => hsp p (by simpa using hp)))) (fun _ _ => rfl) (by simp)
    hg.1 hg.2.2.1 hg.2.2.2.1 (ok_one (by kernel_rfl) rfl (okWide_bool_mk Tryz.underlying4 _))⟩

theorem forestNone_row : Rows.ForestNoneSaid :=
  OpenClaim.holds_of_wide 4 Tryz.f4 rfl rfl rfl rfl rfl rfl rfl ⟨rfl, rfl, rfl, rfl, rfl⟩ rfl rfl rfl rfl rfl (by kernel_rfl) Tryz.func4 (by kernel_rfl)
    (of_decide_eq_true (by kernel_rfl)) (by unfold Func.isWrapper; first | (rw [if_pos (by decide +kernel)]; kernel_rfl) | (rw [if_neg (by decide +kernel)]; exact ⟨rfl, rfl⟩))
    (fun os started H enc _ => forestNone_lifted os started H enc)

theorem forestNone : Rows.ForestNoneCardSaid :=
  Claim7.holds_tied_plain_at .later [] [.data] true (true, "0c95d914467b0651f22f7c0e055b2714b5284ba14c45a853ef4c334e3c010d9b") false forestNone_row (fun _ h => by cases h) (by kernel_rfl) (fun _ h => by cases h) forestNone_row_tie rfl ⟨rfl, rfl⟩ (by kernel_rfl) rfl
    (fun f fn hf hfn => by
      obtain rfl : f = 4 := Option.some.inj ((show Tryz.prog.funcNamed "exchequer/exchequerlaw16.ForestNone" = some 4 by kernel_rfl).symm.trans hf) |>.symm
      obtain rfl : fn = Tryz.f4 := (Option.some.inj (Tryz.func4.symm.trans hfn)).symm
      exact ⟨by kernel_rfl, fun j t ht => by
        rw [Tryz.params4] at ht
        have hm : t ∈ [36, 27] := by simpa using Array.mem_of_getElem? ht
        have hall : ([36, 27].all fun u => !Tryz.prog.wantsStandIn u) = true := by kernel_rfl
        exact (show Tryz.prog.wantsStandIn t = false by simpa using List.all_eq_true.1 hall t hm)⟩)
    (by kernel_rfl)
#print axioms forestNone
end Go.Proofs.YtnbffjaghcfenaaGreatDoor

set_option linter.unusedVariables false
namespace Go.Proofs.YtnbffjaghcfenaaGreatDoor
open Go.ChangeShapes Go.WideShapes Go.ChangeAt Go.RowKit Go.Fv

theorem own_forestKnown : ownKnob Tryz.prog.godebug = none := by kernel_rfl

theorem forestKnown_walk (us : Array Value) (hus : All2 (VRel fun _ => none) [] us.toList) (w : World) (ht : ∀ B o, globG = some (B, o) → TabG w B o) :
    Calls Tryz.prog 3 us w fun e w' => e = .returned (.bool true) ∧ (∀ k, k < w.heap.size → w'.heap[k]? = w.heap[k]?) ∧ w.heap.size ≤ w'.heap.size ∧ w'.os = w.os ∧ w'.output = w.output ∧ w'.tape = w.tape := by
  exact forestKnown_call.walk (fun _ h => h.1) hus Tryz.call3 w ht

set_option maxRecDepth 100000 in
theorem forestKnown_lifted (os : Os) (started : os.Started) (H : Type) (enc : TypeId × Value → H) :
    ReturnsInHanded {} Tryz.checked os 3 .any (fun w args => (Rows.forestKnownSpec.pre enc Tryz.prog Tryz.f3 [] false w args ∧ laidMetH Tryz.prog Rows.forestKnownRow.laid w) ∧ sizedMet enc Tryz.prog Tryz.f3 (OpenSpec.ofChange Rows.forestKnownSpec) false w args)
      (Rows.forestKnownSpec.post enc Tryz.prog Tryz.f3 false true false false) := by
  refine returnsInHanded_of_change_and (C := Tryz.checked) (X := fun w _ => laidMetH Tryz.prog Rows.forestKnownRow.laid w) (fun _ _ _ hh h => h.of_heap hh) own_forestKnown started (by kernel_rfl) Tryz.func3
    (ChangeSpec.witness_shaped (enc := enc) (C := Tryz.checked) (os := os) (X := fun w _ => laidMetH Tryz.prog Rows.forestKnownRow.laid w) false (World.laidAll Tryz.prog os Rows.forestKnownRow.laid) #[] 8 (World.laidAll_os _ _ _)
      (World.shaped_of_ZipB (by kernel_rfl) (by kernel_rfl)) (by kernel_rfl) (by kernel_rfl) (by kernel_rfl)
      (by rw [MakeChecks.laidMetH_plain _ _ _ (by kernel_rfl)]; exact laidMet_laidAll _ (by kernel_rfl) (by kernel_rfl))) ?_
  intro W base args ds gs before hval0 hW _ _ hX _
  have hval : ∀ (j : Nat) t v, Tryz.f3.params[j]? = some t → args[j]? = some v → Value.okWide Tryz.prog W .any base t v := hval0
  have hW' := hW
  obtain ⟨p, q, hA0, hV, rfl, hfz, hnd⟩ := hW
  have hA : DataW.TrodAll enc Tryz.prog W 0 (fun _ => true) true Tryz.f3.params.toList args.toList ds p := hA0
  have hAk := hA
  rw [Tryz.params3] at hA hval
  obtain ⟨rfl, rfl, rfl⟩ := trodAll_none hA
  obtain ⟨rfl, rfl⟩ := trodVars_none hV
  clear hA0 hval0
  simp only [List.append_nil] at hW'
  refine (forestKnown_walk #[] trivial W (tab_of_row rfl hX)).mono fun e W' ⟨he, hg⟩ => ?_
  subst he
  exact ⟨_, rfl, post_of_old (pa := []) (pv := []) hW' (fun _ _ _ => (trodAll_cons_mk (shut_bool Tryz.underlying4 _) trodAll_mk0)) (fun sp _ => rfl) (fun _ _ => rfl) rfl
    hg.1 hg.2.2.1 hg.2.2.2.1 (ok_one (by kernel_rfl) rfl (okWide_bool_mk Tryz.underlying4 _))⟩

theorem forestKnown_row : Rows.ForestKnownSaid :=
  OpenClaim.holds_of_wide 3 Tryz.f3 rfl rfl rfl rfl rfl rfl rfl ⟨rfl, rfl, rfl, rfl, rfl⟩ rfl rfl rfl rfl rfl (by kernel_rfl) Tryz.func3 (by kernel_rfl)
    (of_decide_eq_true (by kernel_rfl)) (by unfold Func.isWrapper; first | (rw [if_pos (by decide +kernel)]; kernel_rfl) | (rw [if_neg (by decide +kernel)]; exact ⟨rfl, rfl⟩))
    (fun os started H enc _ => forestKnown_lifted os started H enc)

theorem forestKnown : Rows.ForestKnownCardSaid :=
  Claim7.holds_tied_plain_at .later [] [.data] true (true, "0c95d914467b0651f22f7c0e055b2714b5284ba14c45a853ef4c334e3c010d9b") false forestKnown_row (fun _ h => by cases h) (by kernel_rfl) (fun _ h => by cases h) forestKnown_row_tie rfl ⟨rfl, rfl⟩ (by kernel_rfl) rfl
    (fun f fn hf hfn => by
      obtain rfl : f = 3 := Option.some.inj ((show Tryz.prog.funcNamed "exchequer/exchequerlaw16.ForestKnown" = some 3 by kernel_rfl).symm.trans hf) |>.symm
      obtain rfl : fn = Tryz.f3 := (Option.some.inj (Tryz.func3.symm.trans hfn)).symm
      exact ⟨by kernel_rfl, fun j t ht => by
        rw [Tryz.params3] at ht
        simp at ht⟩)
    (by kernel_rfl)
#print axioms forestKnown
end Go.Proofs.YtnbffjaghcfenaaGreatDoor
