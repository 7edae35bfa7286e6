/- A region that draws its order, walked along a tree of orders: calm operations are taken first; where two others may come up, both ways are walked. -/
import Derived.Test.YtnicebdkejkieaaMixV
namespace Go.Proofs.Ytnicebdkejkieaa.eng
open Go.RowKit kit mix
inductive Ord where
  | done
  | calm (i : Nat) (t : Ord)
  | one (i : Nat) (t : Ord)
  | two (i : Nat) (t : Ord) (j : Nat) (u : Ord)
def Ord.size : Ord → Nat
  | .done => 0
  | .calm _ t => t.size + 1
  | .one _ t => t.size + 1
  | .two _ t _ _ => t.size + 1
section
variable {P : Program} {ops : Array Oper} {md : Region.Mode} {Q : Exit → Act → World → Prop} {U : World → Prop}
def wpO (P : Program) (ops : Array Oper) (Q : Exit → Act → World → Prop) (U : World → Prop) : Ord → Act → (World → Prop) → Prop
  | .calm i t, a, S => ∃ o v, ops[i]? = some o ∧ (if Region.wanted o (yielded ops a.tmps) then ∀ w, U w → calmAt P o a w v else v = undef) ∧ wpO P ops Q U t (a.put o.dst v) S
  | .one i t, a, S => ∃ o, ops[i]? = some o ∧ ∀ w, S w → wpList P ops (Exit.then (fun a' w' => ∃ S', Closed S' ∧ (∀ x, S' x → U x) ∧ S' w' ∧ wpO P ops Q U t a' S') Q) [o] a w
  | .two i t j u, a, S => (∃ o, ops[i]? = some o ∧ ∀ w, S w → wpList P ops (Exit.then (fun a' w' => ∃ S', Closed S' ∧ (∀ x, S' x → U x) ∧ S' w' ∧ wpO P ops Q U t a' S') Q) [o] a w) ∧
      (∃ o, ops[j]? = some o ∧ ∀ w, S w → wpList P ops (Exit.then (fun a' w' => ∃ S', Closed S' ∧ (∀ x, S' x → U x) ∧ S' w' ∧ wpO P ops Q U u a' S') Q) [o] a w)
  | .done, a, S => ∀ w, S w → Q .normal a w
def orderO (md : Region.Mode) (ops : Array Oper) : Ord → Array Bool → Bool
  | .calm i t, listed => (Region.ready md ops listed).contains i && Region.free md ops listed i && orderO md ops t (listed.setIfInBounds i true)
  | .one i t, listed => decide (Region.ready md ops listed = [i]) && orderO md ops t (listed.setIfInBounds i true)
  | .two i t j u, listed => decide (Region.ready md ops listed = [i, j]) && Nat.beq t.size u.size && orderO md ops t (listed.setIfInBounds i true) && orderO md ops u (listed.setIfInBounds j true)
  | .done, listed => decide (Region.ready md ops listed = [])
theorem wpAnyV_ord (hsel : Region.noSelect ops = true) (hQ : ∀ c a d v w, Q (.panic c) (Act.put a d v) w → Q (.panic c) a w) :
    ∀ (t : Ord) (listed : Array Bool) (a : Act) (S : World → Prop), Closed S → (∀ x, S x → U x) → orderO md ops t listed = true →
    wpO P ops Q U t a S → wpAnyV P md ops Q U t.size listed a S
  | .done, listed, a, S, _, _, ho, h => ⟨by simpa [orderO] using ho, h⟩
  | .calm i t, listed, a, S, hcl, hsu, ho, h => by
    simp only [orderO, Bool.and_eq_true] at ho
    obtain ⟨⟨hr, hf⟩, ho'⟩ := ho
    have hr' : i ∈ Region.ready md ops listed := by simpa using hr
    obtain ⟨o, v, h0, hy, hK⟩ := h
    have hy' : CalmIn P ops U o v a := by
      by_cases hw : Region.wanted o (yielded ops a.tmps) = true
      · rw [if_pos hw] at hy; exact .inl ⟨hw, hy⟩
      · rw [if_neg hw] at hy; exact .inr ⟨by simpa using hw, hy⟩
    exact wpAnyV_first h0 (Region.noSelect_spec hsel) (fun c a w => hQ c a o.dst v w) t.size listed a S hcl hsu (Region.free_spec h0 hf) hr' hy'
      (wpAnyV_ord hsel hQ t _ _ S hcl hsu ho' hK)
  | .one i t, listed, a, S, hcl, hsu, ho, h => by
    simp only [orderO, Bool.and_eq_true, decide_eq_true_eq] at ho
    obtain ⟨hr, ho'⟩ := ho
    obtain ⟨o, h0, h⟩ := h
    refine ⟨fun h' => (by rw [hr] at h'; cases h'), fun j hj w hw => ?_⟩
    obtain rfl : j = i := by rw [hr] at hj; simpa using hj
    refine wpOp_mono (fun a' w' ⟨S', hcl', hsu', hw', hK⟩ => ⟨S', hcl', hsu', hw', ?_⟩) (wpOp_of_list h0 (h w hw))
    exact wpAnyV_ord hsel hQ t _ _ S' hcl' hsu' ho' hK
  | .two i t j u, listed, a, S, hcl, hsu, ho, h => by
    simp only [orderO, Bool.and_eq_true, decide_eq_true_eq] at ho
    obtain ⟨⟨⟨hr, hs⟩, ho1⟩, ho2⟩ := ho
    obtain ⟨⟨o, h0, h⟩, ⟨o2, h02, h2⟩⟩ := h
    have hs := Nat.eq_of_beq_eq_true hs
    refine ⟨fun h' => (by rw [hr] at h'; cases h'), fun q hq w hw => ?_⟩
    rw [hr] at hq
    simp only [List.mem_cons, List.not_mem_nil, or_false] at hq
    rcases hq with rfl | rfl
    · refine wpOp_mono (fun a' w' ⟨S', hcl', hsu', hw', hK⟩ => ⟨S', hcl', hsu', hw', ?_⟩) (wpOp_of_list h0 (h w hw))
      exact wpAnyV_ord hsel hQ t _ _ S' hcl' hsu' ho1 hK
    · refine wpOp_mono (fun a' w' ⟨S', hcl', hsu', hw', hK⟩ => ⟨S', hcl', hsu', hw', ?_⟩) (wpOp_of_list h02 (h2 w hw))
      rw [hs]
      exact wpAnyV_ord hsel hQ u _ _ S' hcl' hsu' ho2 hK
end
structure TW (P : Program) (n : Nat) (W : Base) (ops : Array Oper) (Q : Exit → Act → World → Prop) (L0 : List Own) (t : Ord) (fr : Fr) (L : List Own) : Prop where
  go : ∀ a, Rep n a fr → wpO P ops Q (Mem W L0) t a (Mem W L)
section
variable {P : Program} {n : Nat} {W : Base} {Q : Exit → Act → World → Prop} {fr : Fr} {L L0 : List Own} {ops : Array Oper} {o : Oper} {t u : Ord} {i j : Nat} {v : Value} {d : Nat}
def ordB (l : List Oper) (t : Ord) : Bool := Nat.beq t.size l.length && Region.noSelect l.toArray && orderO .any l.toArray t (Array.replicate l.toArray.size false)
theorem T_ord {id : Nat} {l : List Oper} (L0 : List Own) (t : Ord) (hsub : ∀ w, Mem W L w → Mem W L0 w) (hm : P.follows .mixedOrders = true) (hB : ordB l t = true)
    (hQ : ∀ c a d v w, Q (.panic c) (Act.put a d v) w → Q (.panic c) a w)
    (h : TW P n W l.toArray Q L0 t fr L) : T P n W (.region id l.toArray true) Q fr L := ⟨fun a w hr hmm => by
  simp only [ordB, Bool.and_eq_true] at hB
  obtain ⟨⟨h1, h2⟩, h3⟩ := hB
  have hlen := Nat.eq_of_beq_eq_true h1
  refine wp_region_any hm ?_
  have hsz : l.toArray.size = t.size := by rw [hlen]; simp
  have := wpAny_of_V (U := Mem W L0) t.size (Array.replicate l.toArray.size false) a (Mem W L) w.drew hmm.drew
    (wpAnyV_ord h2 hQ t _ a (Mem W L) (closed_mem W L) hsub h3 (h.go a hr))
  rw [← hsz] at this
  exact this⟩
theorem TW_val (ho : ops[i]? = some o) (hr : RR P n W o fr L0 v) (hg : o.guard = none) (hd : o.dst = some d) (hn : Nat.blt d n = true) (h : TW P n W ops Q L0 t ((d, v) :: fr) L) : TW P n W ops Q L0 (.calm i t) fr L := ⟨fun a hrep =>
  ⟨o, v, ho, by rw [if_pos (wanted_none hg)]; intro w hw; unfold calmAt; rw [hr.go a w hrep hw]; exact ⟨rfl, Gr.refl _⟩, by rw [hd]; exact h.go _ (hrep.put hn v)⟩⟩
theorem TW_gval {q e : Nat} {b : Bool} (ho : ops[i]? = some o) (hr : RR P n W o fr L0 v) (hg : o.guard = some (q, b)) (hj : (ops[q]?).bind (·.dst) = some e) (hl : look fr e = some (.bool b)) (hd : o.dst = some d) (hn : Nat.blt d n = true) (h : TW P n W ops Q L0 t ((d, v) :: fr) L) : TW P n W ops Q L0 (.calm i t) fr L := ⟨fun a hrep =>
  ⟨o, v, ho, by rw [if_pos (wanted_yes hrep hg hj hl)]; intro w hw; unfold calmAt; rw [hr.go a w hrep hw]; exact ⟨rfl, Gr.refl _⟩, by rw [hd]; exact h.go _ (hrep.put hn v)⟩⟩
theorem TW_skip {q e : Nat} {b : Bool} {x : Value} (ho : ops[i]? = some o) (hg : o.guard = some (q, b)) (hj : (ops[q]?).bind (·.dst) = some e) (hl : look fr e = some x) (hu : notB b x = true) (hd : o.dst = some d) (hn : Nat.blt d n = true) (h : TW P n W ops Q L0 t ((d, undef) :: fr) L) : TW P n W ops Q L0 (.calm i t) fr L := ⟨fun a hrep =>
  ⟨o, undef, ho, by rw [wanted_no hrep hg hj hl hu]; rfl, by rw [hd]; exact h.go _ (hrep.put hn undef)⟩⟩
theorem TW_call {f : FuncId} {args : Array Value} (ho : ops[i]? = some o) (he : ∀ a w, Rep n a fr → (execOp a.eval o).run P w = .ok (.enter f args) w) (hc : ∀ w, Mem W L0 w → Calls P f args w (Meets (ret v) w)) (hg : o.guard = none) (hd : o.dst = some d) (hn : Nat.blt d n = true)
    (h : TW P n W ops Q L0 t ((d, v) :: fr) L) : TW P n W ops Q L0 (.calm i t) fr L := ⟨fun a hrep =>
  ⟨o, v, ho, by rw [if_pos (wanted_none hg)]; intro w hw; unfold calmAt; rw [he a w hrep]; exact ⟨Gr.refl _, (hc w hw).mono fun _ _ h => of_meets h⟩, by rw [hd]; exact h.go _ (hrep.put hn v)⟩⟩
theorem TW_gcall {f : FuncId} {args : Array Value} {q e : Nat} {b : Bool} (ho : ops[i]? = some o) (he : ∀ a w, Rep n a fr → (execOp a.eval o).run P w = .ok (.enter f args) w) (hc : ∀ w, Mem W L0 w → Calls P f args w (Meets (ret v) w)) (hg : o.guard = some (q, b)) (hj : (ops[q]?).bind (·.dst) = some e) (hl : look fr e = some (.bool b)) (hd : o.dst = some d) (hn : Nat.blt d n = true)
    (h : TW P n W ops Q L0 t ((d, v) :: fr) L) : TW P n W ops Q L0 (.calm i t) fr L := ⟨fun a hrep =>
  ⟨o, v, ho, by rw [if_pos (wanted_yes hrep hg hj hl)]; intro w hw; unfold calmAt; rw [he a w hrep]; exact ⟨Gr.refl _, (hc w hw).mono fun _ _ h => of_meets h⟩, by rw [hd]; exact h.go _ (hrep.put hn v)⟩⟩
abbrev after (P : Program) (W : Base) (ops : Array Oper) (Q : Exit → Act → World → Prop) (L0 : List Own) (t : Ord) : Exit → Act → World → Prop := Exit.then (fun a' w' => ∃ S', Closed S' ∧ (∀ x, S' x → Mem W L0 x) ∧ S' w' ∧ wpO P ops Q (Mem W L0) t a' S') Q
theorem TW_one (ho : ops[i]? = some o) (h : TL P n W ops (after P W ops Q L0 t) [o] fr L) : TW P n W ops Q L0 (.one i t) fr L := ⟨fun a hrep => ⟨o, ho, fun w hw => h.go a w hrep hw⟩⟩
theorem TW_two {o2 : Oper} (ho : ops[i]? = some o) (ho2 : ops[j]? = some o2) (h : TL P n W ops (after P W ops Q L0 t) [o] fr L) (h2 : TL P n W ops (after P W ops Q L0 u) [o2] fr L) : TW P n W ops Q L0 (.two i t j u) fr L :=
  ⟨fun a hrep => ⟨⟨o, ho, fun w hw => h.go a w hrep hw⟩, ⟨o2, ho2, fun w hw => h2.go a w hrep hw⟩⟩⟩
theorem TW_on {L' : List Own} {fr' : Fr} (hsub : ∀ w, Mem W L' w → Mem W L0 w) (h : TW P n W ops Q L0 t fr' L') : TL P n W ops (after P W ops Q L0 t) [] fr' L' :=
  TL_nil ⟨fun a w hr hm => ⟨Mem W L', closed_mem _ _, hsub, hm, h.go a hr⟩⟩
theorem TW_done (h : E n W .normal Q fr L) : TW P n W ops Q L0 .done fr L := ⟨fun a hr w hw => h.go a w hr hw⟩
/-- a meeting point ahead of what comes next -/
theorem T_midq {x y : Code} {ι : Type} (I : ι → Prop) (F : ι → Fr) (M : ι → List Own)
    (hx : T P n W x (Exit.then (Mid n W I F M) Q) fr L) (hy : ∀ i, I i → T P n W y Q (F i) (M i)) : T P n W x (Exit.then (y.wp P Q) Q) fr L := .mk fun a w hr hm =>
  wp_mono (hx.go a w hr hm) fun e a w h => by
    cases e with
    | normal => obtain ⟨i, h1, h2, h3⟩ := h; exact (hy i h1).go a w h2 h3
    | _ => exact h
/-- a condition that is a comparison -/
theorem T_condD {c : Operand} {x y : Code} {p : Prop} {inst : Decidable p} (hc : ev fr c = some (.bool (decide p))) (ht : p → T P n W x Q fr L) (hf : ¬ p → T P n W y Q fr L) : T P n W (.cond c x y) Q fr L := by
  by_cases h : p
  · exact T_condT (by rw [hc, decide_eq_true h]) (ht h)
  · exact T_condF (by rw [hc, decide_eq_false h]) (hf h)
/-- a guarded operation whose guard is met -/
theorem TL_met {rest : List Oper} {q e : Nat} {b : Bool} (hg : o.guard = some (q, b)) (hj : (ops[q]?).bind (·.dst) = some e) (hl : look fr e = some (.bool b)) (h : TL P n W ops Q ({ o with guard := none } :: rest) fr L) : TL P n W ops Q (o :: rest) fr L := .mk fun a w hr hm => by
  have h1 := h.go a w hr hm
  unfold wpList at h1 ⊢
  rw [if_pos (wanted_none rfl)] at h1
  rw [if_pos (wanted_yes hr hg hj hl)]
  exact h1
theorem TW_valg (ho : ops[i]? = some o) (hg : o.guard = none) (hr : RR P n W o fr L0 v) (hd : o.dst = some d) (hn : Nat.blt d n = true) (h : TW P n W ops Q L0 t ((d, v) :: fr) L) : TW P n W ops Q L0 (.calm i t) fr L := TW_val ho hr hg hd hn h
theorem TW_gvalg {q e : Nat} {b : Bool} (ho : ops[i]? = some o) (hg : o.guard = some (q, b)) (hj : (ops[q]?).bind (·.dst) = some e) (hl : look fr e = some (.bool b)) (hr : RR P n W o fr L0 v) (hd : o.dst = some d) (hn : Nat.blt d n = true) (h : TW P n W ops Q L0 t ((d, v) :: fr) L) : TW P n W ops Q L0 (.calm i t) fr L := TW_gval ho hr hg hj hl hd hn h
/-- a calm operation that is wanted -/
structure TN (P : Program) (n : Nat) (W : Base) (ops : Array Oper) (Q : Exit → Act → World → Prop) (L0 : List Own) (o : Oper) (t : Ord) (fr : Fr) (L : List Own) : Prop where
  go : ∀ a, Rep n a fr → ∃ v, (∀ w, Mem W L0 w → calmAt P o a w v) ∧ wpO P ops Q (Mem W L0) t (a.put o.dst v) (Mem W L)
theorem TW_plain (ho : ops[i]? = some o) (hg : o.guard = none) (h : TN P n W ops Q L0 o t fr L) : TW P n W ops Q L0 (.calm i t) fr L := ⟨fun a hrep => by
  obtain ⟨v, h1, h2⟩ := h.go a hrep
  exact ⟨o, v, ho, by rw [if_pos (wanted_none hg)]; exact h1, h2⟩⟩
theorem TW_gmet {q e : Nat} {b : Bool} (ho : ops[i]? = some o) (hg : o.guard = some (q, b)) (hj : (ops[q]?).bind (·.dst) = some e) (hl : look fr e = some (.bool b)) (h : TN P n W ops Q L0 o t fr L) : TW P n W ops Q L0 (.calm i t) fr L := ⟨fun a hrep => by
  obtain ⟨v, h1, h2⟩ := h.go a hrep
  exact ⟨o, v, ho, by rw [if_pos (wanted_yes hrep hg hj hl)]; exact h1, h2⟩⟩
theorem TN_val (hr : RR P n W o fr L0 v) (hd : o.dst = some d) (hn : Nat.blt d n = true) (h : TW P n W ops Q L0 t ((d, v) :: fr) L) : TN P n W ops Q L0 o t fr L := ⟨fun a hrep =>
  ⟨v, fun w hw => by unfold calmAt; rw [hr.go a w hrep hw]; exact ⟨rfl, Gr.refl _⟩, by rw [hd]; exact h.go _ (hrep.put hn v)⟩⟩
end
end Go.Proofs.Ytnicebdkejkieaa.eng
