/-
  A second abstract evaluator of the model's code: places cut at a number, and what a step says of less and of more. Conditions: none; nothing here speaks of one program.
-/
import Derived.Test.YtinhlbmlopkgiaaGreatDoorFvT
set_option linter.unusedSectionVars false
set_option linter.unusedVariables false
namespace Go.Fv

/-- Only blocks below n. -/
def bel (ρ : PM) (n : Nat) : PM := fun b => if b < n then ρ b else none
theorem bel_lt {ρ : PM} {n b : Nat} (h : b < n) : bel ρ n b = ρ b := if_pos h
theorem bel_ge {ρ : PM} {n b : Nat} (h : n ≤ b) : bel ρ n b = none := if_neg (by omega)
theorem bel_some {ρ : PM} {n b : Nat} {L : Loc} (h : bel ρ n b = some L) : b < n ∧ ρ b = some L := by
  unfold bel at h
  split at h
  · rename_i hb; exact ⟨hb, h⟩
  · cases h
theorem bel_dom (ρ : PM) (n : Nat) : Dom (bel ρ n) n := fun _ h => bel_ge h
theorem bel_le (ρ : PM) (n : Nat) : PM.le (bel ρ n) ρ := fun b x h => (bel_some h).2
theorem bel_mono {ρ ρ' : PM} {n n' : Nat} (h : PM.le ρ ρ') (hn : n ≤ n') : PM.le (bel ρ n) (bel ρ' n') := fun b x hb => by
  obtain ⟨h1, h2⟩ := bel_some hb
  rw [bel_lt (by omega)]
  exact h _ _ h2
theorem bel_eq {ρ : PM} {n m : Nat} (h : Dom ρ n) (hm : n ≤ m) : bel ρ m = ρ := by
  funext b
  unfold bel
  split
  · rfl
  · rw [h b (by omega)]

theorem All2.back {α β : Type} {R R' : α → β → Prop} (h : ∀ a b b', R a b → R' a b' → R a b') : ∀ {as : List α} {bs bs' : List β}, All2 R as bs → All2 R' as bs' → All2 R as bs'
  | [], [], [], _, _ => trivial
  | _ :: _, _ :: _, _ :: _, ⟨h1, h2⟩, ⟨h3, h4⟩ => ⟨h _ _ _ h1 h3, All2.back h h2 h4⟩
  | [], [], _ :: _, _, h => h.elim
  | [], _ :: _, _, h, _ => h.elim
  | _ :: _, [], _, h, _ => h.elim
  | _ :: _, _ :: _, [], _, h => h.elim

theorem CRel.back {ρ ρ' : PM} (hle : PM.le ρ ρ') : ∀ {c : Cel} {u u' : Value}, CRel ρ c u → CRel ρ' c u' → CRel ρ c u'
  | .lit _, _, _, _, h => h
  | .ptr b _, _, _, ⟨L, h1, _⟩, ⟨L', h2, h3⟩ => ⟨L', by have := hle b L h1; rw [h2] at this; cases this; exact h1, h3⟩
  | .sl b _ _ _, _, _, ⟨⟨L, h1, _⟩, _⟩, ⟨⟨L', h2, h3⟩, h4⟩ => ⟨⟨L', by have := hle b L h1; rw [h2] at this; cases this; exact h1, h3⟩, h4⟩
  | .su b _ _ _, _, _, ⟨L, _, h1, _⟩, ⟨L', cap, h2, h3⟩ => ⟨L', cap, by have := hle b L h1; rw [h2] at this; cases this; exact h1, h3⟩
  | .sz b _, _, _, ⟨L, _, _, h1, _⟩, ⟨L', o, cap, h2, h3⟩ => ⟨L', o, cap, by have := hle b L h1; rw [h2] at this; cases this; exact h1, h3⟩
  | .kp b _ _, _, _, ⟨L, _, h1, _⟩, ⟨L', cap, h2, h3⟩ => ⟨L', cap, by have := hle b L h1; rw [h2] at this; cases this; exact h1, h3⟩
  | .us, _, _, _, h => h
  | .un _, _, _, _, h => h
  | .fn _ _, _, _, ⟨us, _, h1⟩, ⟨us', h2, h3⟩ => ⟨us', h2, h1.back (fun p v v' ⟨L, g1, _⟩ ⟨L', g2, g3⟩ => ⟨L', by have := hle _ L g1; rw [g2] at this; cases this; exact g1, g3⟩) h3⟩
  | .mp b, _, _, ⟨L, h1, _⟩, ⟨L', h2, h3⟩ => ⟨L', by have := hle b L h1; rw [h2] at this; cases this; exact h1, h3⟩
  | .yd b, _, _, ⟨L, h1, _⟩, ⟨L', h2, h3⟩ => ⟨L', by have := hle b L h1; rw [h2] at this; cases this; exact h1, h3⟩
theorem PRel.back {ρ ρ' : PM} (hle : PM.le ρ ρ') : ∀ {p : Bool × List Cel} {u u' : Value}, PRel ρ p u → PRel ρ' p u' → PRel ρ p u'
  | (true, _), _, _, ⟨us, _, h1⟩, ⟨us', h2, h3⟩ => ⟨us', h2, h1.back (R' := CRel ρ') (fun _ _ _ => CRel.back hle) h3⟩
  | (false, [_]), _, _, h1, h2 => CRel.back (ρ := ρ) hle h1 h2
  | (false, []), _, _, h, _ => h.elim
  | (false, _ :: _ :: _), _, _, h, _ => h.elim
theorem VRel.back {ρ ρ' : PM} (hle : PM.le ρ ρ') : ∀ {v : AV} {u u' : Value}, VRel ρ v u → VRel ρ' v u' → VRel ρ v u'
  | .one _, _, _, h1, h2 => CRel.back (ρ := ρ) hle h1 h2
  | .agg _, _, _, ⟨us, _, h1⟩, ⟨us', h2, h3⟩ => ⟨us', h2, h1.back (R' := CRel ρ') (fun _ _ _ => CRel.back hle) h3⟩
  | .tup _, _, _, ⟨us, _, h1⟩, ⟨us', h2, h3⟩ => ⟨us', h2, h1.back (R' := PRel ρ') (fun _ _ _ => PRel.back hle) h3⟩
theorem CtRel.back {ρ ρ' : PM} (hle : PM.le ρ ρ') {w w' : World} {L : Loc} {i : Nat} : ∀ {x : Ct}, CtRel ρ w L i x → CtRel ρ' w' L i x → CtRel ρ w' L i x
  | .c _, ⟨_, _, _, _, _, _, _, _, h⟩, ⟨arr, t, fr, u, h1, h2, h3, h4, h5⟩ => ⟨arr, t, fr, u, h1, h2, h3, h4, h.back hle h5⟩
  | .map _ _, ⟨_, _, _, _, h⟩, ⟨h1, h2, arr, h3, h4⟩ => ⟨h1, h2, arr, h3, h.back (fun _ _ _ ⟨a1, a2, a3⟩ ⟨b1, b2, b3⟩ => ⟨a1.back hle b1, a2.back hle b2, b3⟩) h4⟩
  | .iter none _ _ _, _, h => h
  | .iter (some b) _ _ _, ⟨_, _, _, _, K, g1, _⟩, ⟨h1, h2, mm, h3, K', g2, g3⟩ => ⟨h1, h2, mm, h3, K', by have := hle b K g1; rw [g2] at this; cases this; exact g1, g3⟩
  | .loop _ _ _ _ _ _ _, ⟨_, _, r, _, _, _, _, _, _, h8, h⟩, ⟨h1, h2, r', h3, h4, h5, h6, h7, h7', h8', h'⟩ => ⟨h1, h2, r', h3, h4, h5, h6, h7, h7', h8', fun t v hv => by
    obtain ⟨u, _, g2⟩ := h t v hv
    obtain ⟨u', g3, g4⟩ := h' t v hv
    exact ⟨u', g3, g2.back hle g4⟩⟩
  | .room, _, h => h

/-! ### Names below a number -/
def Cel.below (n : Nat) : Cel → Bool
  | .lit _ => true
  | .ptr b _ => Nat.ble (Nat.succ b) n
  | .sl b _ _ _ => Nat.ble (Nat.succ b) n
  | .su b _ _ _ => Nat.ble (Nat.succ b) n
  | .sz b _ => Nat.ble (Nat.succ b) n
  | .kp b _ _ => Nat.ble (Nat.succ b) n
  | .us => true
  | .un _ => true
  | .fn _ caps => caps.all fun p => Nat.ble (Nat.succ p.1) n
  | .mp b => Nat.ble (Nat.succ b) n
  | .yd b => Nat.ble (Nat.succ b) n
def AV.below (n : Nat) : AV → Bool
  | .one c => c.below n
  | .agg xs => xs.all (Cel.below n)
  | .tup vs => vs.all fun p => p.2.all (Cel.below n)

theorem All2.cutAll {α β : Type} {R R' : α → β → Prop} {q : α → Bool} (h : ∀ a b, q a = true → R a b → R' a b) : ∀ {as : List α} {bs : List β}, as.all q = true → All2 R as bs → All2 R' as bs
  | [], [], _, _ => trivial
  | a :: as, b :: bs, hq, ⟨h1, h2⟩ => by
    simp only [List.all_cons, Bool.and_eq_true] at hq
    exact ⟨h _ _ hq.1 h1, All2.cutAll h hq.2 h2⟩
  | [], _ :: _, _, h => h.elim
  | _ :: _, [], _, h => h.elim
theorem lt_of_ble {b n : Nat} (h : Nat.ble (Nat.succ b) n = true) : b < n := Nat.le_of_ble_eq_true h

theorem CRel.bel {ρ : PM} {n : Nat} : ∀ {c : Cel} {u : Value}, c.below n = true → CRel ρ c u → CRel (bel ρ n) c u
  | .lit _, _, _, h => h
  | .ptr _ _, _, hb, ⟨L, h1, h2⟩ => ⟨L, by rw [bel_lt (lt_of_ble hb)]; exact h1, h2⟩
  | .sl _ _ _ _, _, hb, ⟨⟨L, h1, h2⟩, h3⟩ => ⟨⟨L, by rw [bel_lt (lt_of_ble hb)]; exact h1, h2⟩, h3⟩
  | .su _ _ _ _, _, hb, ⟨L, cap, h1, h2⟩ => ⟨L, cap, by rw [bel_lt (lt_of_ble hb)]; exact h1, h2⟩
  | .sz _ _, _, hb, ⟨L, o, cap, h1, h2⟩ => ⟨L, o, cap, by rw [bel_lt (lt_of_ble hb)]; exact h1, h2⟩
  | .kp _ _ _, _, hb, ⟨L, cap, h1, h2⟩ => ⟨L, cap, by rw [bel_lt (lt_of_ble hb)]; exact h1, h2⟩
  | .us, _, _, h => h
  | .un _, _, _, h => h
  | .fn _ _, _, hb, ⟨us, h1, h2⟩ => ⟨us, h1, h2.cutAll (fun p v hp ⟨L, g1, g2⟩ => ⟨L, by rw [bel_lt (lt_of_ble hp)]; exact g1, g2⟩) hb⟩
  | .mp _, _, hb, ⟨L, h1, h2⟩ => ⟨L, by rw [bel_lt (lt_of_ble hb)]; exact h1, h2⟩
  | .yd _, _, hb, ⟨L, h1, h2⟩ => ⟨L, by rw [bel_lt (lt_of_ble hb)]; exact h1, h2⟩
theorem PRel.bel {ρ : PM} {n : Nat} : ∀ {p : Bool × List Cel} {u : Value}, p.2.all (Cel.below n) = true → PRel ρ p u → PRel (bel ρ n) p u
  | (true, _), _, hb, ⟨us, h1, h2⟩ => ⟨us, h1, h2.cutAll (fun _ _ => CRel.bel) hb⟩
  | (false, [c]), _, hb, h => by
    simp only [List.all_cons, List.all_nil, Bool.and_true] at hb
    exact CRel.bel (ρ := ρ) hb h
  | (false, []), _, _, h => h.elim
  | (false, _ :: _ :: _), _, _, h => h.elim
theorem VRel.bel {ρ : PM} {n : Nat} : ∀ {v : AV} {u : Value}, v.below n = true → VRel ρ v u → VRel (bel ρ n) v u
  | .one _, _, hb, h => CRel.bel hb h
  | .agg _, _, hb, ⟨us, h1, h2⟩ => ⟨us, h1, h2.cutAll (fun _ _ => CRel.bel) hb⟩
  | .tup _, _, hb, ⟨us, h1, h2⟩ => ⟨us, h1, h2.cutAll (fun _ _ => PRel.bel) hb⟩

/-! ### A step, less of it and more -/
section
variable {ρ0 ρ ρ' ρ2 : PM} {H0 H H1 H2 : HP} {w0 w w' : World}

/-- A place of the same world: no object that was there is another. -/
theorem HRel.still (h : HRel ρ H w) (hs : ∀ k, k < w.heap.size → w'.heap[k]? = w.heap[k]?) : HRel ρ H w' :=
  ⟨fun b i c L hc hL => (h.rel b i c L hc hL).of_heap (hs _ (h.rel b i c L hc hL).lt), h.inj⟩

theorem Sim.still (s : Sim ρ0 H0 w0 ρ H w) (hs : ∀ k, k < w.heap.size → w'.heap[k]? = w.heap[k]?) (h1 : w.heap.size ≤ w'.heap.size) (h2 : w'.os = w.os) (h3 : w'.tape = w.tape) (h4 : w'.output = w.output) (hd : Dom ρ0 H0.n) (hlt : ∀ b L, H0.Kn b → ρ0 b = some L → L.B < w.heap.size) : Sim ρ0 H0 w0 ρ H w' where
  le := s.le
  grow := s.grow
  dom := s.dom
  rel := s.rel.still hs
  knc := s.knc
  frc := fun b L i g1 g2 g3 g4 => (s.frc b L i g1 g2 g3 g4).trans (SameAt.of_heap (hs _ (hlt b L g1 g3)) _)
  fr := fun k hk hno => by rw [hs k (Nat.lt_of_lt_of_le hk s.size)]; exact s.fr k hk hno
  new := s.new
  size := Nat.le_trans s.size h1
  os := h2.trans s.os
  tape := h3.trans s.tape
  output := h4.trans s.output
  old := s.old

/-- Less of the end. -/
theorem Sim.less (s : Sim ρ0 H0 w0 ρ2 H2 w) (hd : Dom ρ0 H0.n) (h0 : H0.n ≤ H1.n) (hsame : ∀ b, b < H1.n → H1.t.get b = H2.t.get b) (hr : HRel (bel ρ2 H1.n) H1 w) : Sim ρ0 H0 w0 (bel ρ2 H1.n) H1 w := by
  have hcell : ∀ b i, b < H1.n → H1.cell b i = H2.cell b i := fun b i hb => by unfold HP.cell; rw [hsame b hb]
  exact {
    le := fun b x hb => by rw [bel_lt (Nat.lt_of_lt_of_le (hd.lt hb) h0)]; exact s.le b x hb
    grow := h0
    dom := bel_dom _ _
    rel := hr
    knc := fun b i hb hc => by rw [hcell b i (by omega)]; exact s.knc b i hb hc
    frc := fun b L i g1 ⟨j, c, hc⟩ g3 g4 => s.frc b L i g1 ⟨j, c, by rw [← hcell b j (Nat.lt_of_lt_of_le (hd.lt g3) h0)]; exact hc⟩ g3 g4
    fr := s.fr
    new := fun b L g1 g2 => s.new b L g1 (bel_some g2).2
    size := s.size
    os := s.os
    tape := s.tape
    output := s.output
    old := fun b L g1 g2 => s.old b L g1 (bel_some g2).2 }

/-- More blocks, of which none lies anywhere. -/
theorem Sim.ghost (s : Sim ρ0 H0 w0 ρ H w) (h1 : H.n ≤ H2.n) (hsame : ∀ b, b < H.n → H2.t.get b = H.t.get b) : Sim ρ0 H0 w0 ρ H2 w := by
  have hcell : ∀ b i, b < H.n → H2.cell b i = H.cell b i := fun b i hb => by unfold HP.cell; rw [hsame b hb]
  exact {
    le := s.le
    grow := Nat.le_trans s.grow h1
    dom := fun b hb => s.dom b (by omega)
    rel := ⟨fun b i c L hc hL => s.rel.rel b i c L (by rw [← hcell b i (s.dom.lt hL)]; exact hc) hL,
      fun b b' L L' ⟨i, c, hc⟩ ⟨i', c', hc'⟩ hL hL' => s.rel.inj b b' L L' ⟨i, c, by rw [← hcell b i (s.dom.lt hL)]; exact hc⟩ ⟨i', c', by rw [← hcell b' i' (s.dom.lt hL')]; exact hc'⟩ hL hL'⟩
    knc := fun b i hb hc => by rw [hcell b i (Nat.lt_of_lt_of_le hb s.grow)]; exact s.knc b i hb hc
    frc := fun b L i g1 ⟨j, c, hc⟩ g3 g4 => by
      by_cases hb : b < H.n
      · exact s.frc b L i g1 ⟨j, c, by rw [← hcell b j hb]; exact hc⟩ g3 g4
      · have := s.le b L g3
        rw [s.dom b (by omega)] at this
        cases this
    fr := s.fr
    new := s.new
    size := s.size
    os := s.os
    tape := s.tape
    output := s.output
    old := s.old }
end
end Go.Fv
