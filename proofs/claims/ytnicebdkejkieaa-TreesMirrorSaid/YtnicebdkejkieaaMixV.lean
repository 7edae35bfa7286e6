/- A region that draws its order, walked once in an order of one's own choice: calm operations are taken first wherever they may come up, and are right in every world of a class U; any other operation must be the only one left to come up, and must not leave U. -/
import Derived.Test.YtnicebdkejkieaaOpm
import Derived.Test.YtnicebdkejkieaaCls
namespace Go.Proofs.Ytnicebdkejkieaa.eng
open Go.RowKit kit mix
section
variable {P : Program} {ops : Array Oper} {md : Region.Mode} {Q : Exit → Act → World → Prop} {U : World → Prop}
/-- one operation, in whatever form it is walked -/
theorem wpOp_of_list {K : Act → World → Prop} {i : Nat} {o : Oper} {a : Act} {w : World} (hi : ops[i]? = some o) (h : wpList P ops (Exit.then K Q) [o] a w) : wpOp P ops Q i K a w := by
  have key : ∀ r, o.upon P a (wpList P ops (Exit.then K Q) []) (Exit.then K Q) r → o.upon P a K Q r := fun r hr => by
    cases r with
    | ok x w' =>
      cases x <;> first
        | exact hr
        | (refine Calls.mono hr fun e w'' he => ?_; cases e <;> exact he)
        | exact Rows.mono hr fun v w'' he => he
    | halt x w' => cases x <;> exact hr
  unfold wpList at h
  unfold wpOp
  rw [hi]
  simp only
  split
  · rename_i hw
    rw [if_pos hw] at h
    rcases h with h | h
    · exact .inl (key _ h)
    · exact .inr h
  · rename_i hw
    rw [if_neg hw] at h
    exact h
def wpAnyV (P : Program) (md : Region.Mode) (ops : Array Oper) (Q : Exit → Act → World → Prop) (U : World → Prop) : Nat → Array Bool → Act → (World → Prop) → Prop
  | 0, listed, a, S => Region.ready md ops listed = [] ∧ ∀ w, S w → Q .normal a w
  | f + 1, listed, a, S => (Region.ready md ops listed = [] → ∀ w, S w → Q .normal a w) ∧
    ∀ i ∈ Region.ready md ops listed, ∀ w, S w → wpOp P ops Q i (fun a' w' => ∃ S', Closed S' ∧ (∀ x, S' x → U x) ∧ S' w' ∧ wpAnyV P md ops Q U f (listed.setIfInBounds i true) a' S') a w
theorem wpAny_of_V : ∀ (f : Nat) (listed : Array Bool) (a : Act) (S : World → Prop) (w : World), S w → wpAnyV P md ops Q U f listed a S → wpAny P md ops Q f listed a w
  | 0, _, _, _, w, hw, h => ⟨h.1, h.2 w hw⟩
  | f + 1, _, _, _, w, hw, h => ⟨fun h0 => h.1 h0 w hw, fun i hi => wpOp_mono (fun a' w' ⟨S', _, _, hw', h'⟩ => wpAny_of_V f _ a' S' w' hw' h') (h.2 i hi w hw)⟩
theorem wpAnyV_first {i : Nat} {oi : Oper} {v : Value} (hi : ops[i]? = some oi) (hsel : ∀ (j : Nat) (o : Oper) cs b, ops[j]? = some o → o.op ≠ .select cs b)
    (hQ : ∀ c a w, Q (.panic c) (a.put oi.dst v) w → Q (.panic c) a w) :
    ∀ (f : Nat) (listed : Array Bool) (a : Act) (S : World → Prop), Closed S → (∀ x, S x → U x) →
      (∀ j oj, ops[j]? = some oj → j ≠ i → listed.getD j true = false → (∀ e ∈ oj.after, Region.binds md e = true → e.on ≠ i) → oi.apart ops oj = true) →
      i ∈ Region.ready md ops listed → CalmIn P ops U oi v a →
      wpAnyV P md ops Q U f (listed.setIfInBounds i true) (a.put oi.dst v) S → wpAnyV P md ops Q U (f + 1) listed a S := by
  intro f
  induction f with
  | zero =>
    intro listed a S hcl hsu _ hr hy H
    refine ⟨fun h => (by rw [h] at hr; cases hr), fun j hj w hw => ?_⟩
    by_cases hji : j = i
    · subst hji; exact (hy.mono hsu).wpOp hi hcl hw fun w' hw' => ⟨S, hcl, hsu, hw', H⟩
    · have := ready_mono (md := md) hj hji
      rw [H.1] at this; cases this
  | succ f ih =>
    intro listed a S hcl hsu hfree hr hy H
    have hun := (mem_ready.1 hr).1
    refine ⟨fun h => (by rw [h] at hr; cases hr), fun j hj w hw => ?_⟩
    by_cases hji : j = i
    · subst hji; exact (hy.mono hsu).wpOp hi hcl hw fun w' hw' => ⟨S, hcl, hsu, hw', H⟩
    · have h1 := H.2 j (ready_mono hj hji) w hw
      obtain ⟨hjun, oj, hoj, hall⟩ := mem_ready.1 hj
      have hnot : ∀ e ∈ oj.after, Region.binds md e = true → e.on ≠ i := fun e he hb heq => by
        have h1 := hall e he hb
        rw [heq, getD_both hun] at h1
        cases h1
      have h2 := wpOp_calm hoj (hfree j oj hoj hji hjun hnot) (fun cs b => hsel i oi cs b hi) (fun cs b => hsel j oj cs b hoj) hQ hy h1
      have hfree' : ∀ k ok, ops[k]? = some ok → k ≠ i → (listed.setIfInBounds j true).getD k true = false →
          (∀ e ∈ ok.after, Region.binds md e = true → e.on ≠ i) → oi.apart ops ok = true := fun k ok hk hki hun hno => by
        refine hfree k ok hk hki ?_ hno
        by_cases hjk : j = k
        · subst hjk; exact hjun
        · rw [getD_set_ne true hjk] at hun; exact hun
      refine wpOp_mono (fun a' w' h3 => ?_) h2
      obtain ⟨h3, S', hcl', hsub, hw', h4⟩ := h3
      refine ⟨S', hcl', hsub, hw', ih (listed.setIfInBounds j true) a' S' hcl' hsub hfree' (ready_mono hr (Ne.symm hji)) h3 ?_⟩
      rw [Array.setIfInBounds_comm _ _ hji]
      exact h4
/-- the walk, in the chosen order: 'true': a calm operation -/
def wpV (P : Program) (ops : Array Oper) (Q : Exit → Act → World → Prop) (U : World → Prop) : List Bool → List Oper → Act → (World → Prop) → Prop
  | true :: ks, o :: rest, a, S => ∃ v, (if Region.wanted o (yielded ops a.tmps) then ∀ w, U w → calmAt P o a w v else v = undef) ∧ wpV P ops Q U ks rest (a.put o.dst v) S
  | false :: ks, o :: rest, a, S => ∀ w, S w → wpList P ops (Exit.then (fun a' w' => ∃ S', Closed S' ∧ (∀ x, S' x → U x) ∧ S' w' ∧ wpV P ops Q U ks rest a' S') Q) [o] a w
  | _, _, a, S => ∀ w, S w → Q .normal a w
def orderV (md : Region.Mode) (ops : Array Oper) : List (Nat × Bool) → Array Bool → Bool
  | (i, true) :: r, listed => (Region.ready md ops listed).contains i && Region.free md ops listed i && orderV md ops r (listed.setIfInBounds i true)
  | (i, false) :: r, listed => decide (Region.ready md ops listed = [i]) && orderV md ops r (listed.setIfInBounds i true)
  | [], listed => decide (Region.ready md ops listed = [])
theorem wpAnyV_lex (hsel : Region.noSelect ops = true) (hQ : ∀ c a d v w, Q (.panic c) (Act.put a d v) w → Q (.panic c) a w) :
    ∀ (is : List (Nat × Bool)) (l : List Oper) (listed : Array Bool) (a : Act) (S : World → Prop), Closed S → (∀ x, S x → U x) → (∀ (j : Nat), (l[j]? : Option Oper) = (is[j]?).bind fun (p : Nat × Bool) => ops[p.1]?) → l.length = is.length → orderV md ops is listed = true →
    wpV P ops Q U (is.map (·.2)) l a S → wpAnyV P md ops Q U is.length listed a S
  | [], l, listed, a, S, _, _, _, hl, ho, h => by
    have hl0 : l = [] := List.eq_nil_of_length_eq_zero (by simpa using hl)
    subst hl0
    exact ⟨by simpa [orderV] using ho, h⟩
  | (i, b) :: is, [], _, _, _, _, _, _, hl, _, _ => by simp at hl
  | (i, true) :: is, o :: l, listed, a, S, hcl, hsu, hget, hl, ho, h => by
    have h0 : ops[i]? = some o := by have := hget 0; simpa using this.symm
    simp only [orderV, Bool.and_eq_true] at ho
    obtain ⟨⟨hr, hf⟩, ho'⟩ := ho
    have hr' : i ∈ Region.ready md ops listed := by simpa using hr
    obtain ⟨v, hy, hK⟩ := h
    have hy' : CalmIn P ops U o v a := by
      by_cases hw : Region.wanted o (yielded ops a.tmps) = true
      · rw [if_pos hw] at hy; exact .inl ⟨hw, hy⟩
      · rw [if_neg hw] at hy; exact .inr ⟨by simpa using hw, hy⟩
    exact wpAnyV_first h0 (Region.noSelect_spec hsel) (fun c a w => hQ c a o.dst v w) is.length listed a S hcl hsu (Region.free_spec h0 hf) hr' hy'
      (wpAnyV_lex hsel hQ is l _ _ S hcl hsu (fun j => by have := hget (j + 1); simpa using this) (by simpa using hl) ho' hK)
  | (i, false) :: is, o :: l, listed, a, S, hcl, hsu, hget, hl, ho, h => by
    have h0 : ops[i]? = some o := by have := hget 0; simpa using this.symm
    simp only [orderV, Bool.and_eq_true, decide_eq_true_eq] at ho
    obtain ⟨hr, ho'⟩ := ho
    refine ⟨fun h' => (by rw [hr] at h'; cases h'), fun j hj w hw => ?_⟩
    obtain rfl : j = i := by rw [hr] at hj; simpa using hj
    refine wpOp_mono (fun a' w' ⟨S', hcl', hsu', hw', hK⟩ => ⟨S', hcl', hsu', hw', ?_⟩) (wpOp_of_list h0 (h w hw))
    exact wpAnyV_lex hsel hQ is l _ _ S' hcl' hsu' (fun j => by have := hget (j + 1); simpa using this) (by simpa using hl) ho' hK
end
/-- a region's operations in the chosen order -/
structure TV (P : Program) (n : Nat) (W : Base) (ops : Array Oper) (Q : Exit → Act → World → Prop) (L0 : List Own) (ks : List Bool) (l : List Oper) (fr : Fr) (L : List Own) : Prop where
  go : ∀ a, Rep n a fr → wpV P ops Q (Mem W L0) ks l a (Mem W L)
section
variable {P : Program} {n : Nat} {W : Base} {Q : Exit → Act → World → Prop} {fr : Fr} {L L0 : List Own} {ops : Array Oper} {ks : List Bool} {o : Oper} {rest : List Oper} {v : Value} {d : Nat}
def orderB (l : List Oper) (is : List (Nat × Bool)) : Bool := Nat.beq is.length l.length && Region.noSelect l.toArray && orderV .any l.toArray is (Array.replicate l.toArray.size false) && is.all fun p => Nat.blt p.1 l.length
theorem T_order {id : Nat} {l : List Oper} (L0 : List Own) (is : List (Nat × Bool)) (hsub : ∀ w, Mem W L w → Mem W L0 w) (hm : P.follows .mixedOrders = true) (hB : orderB l is = true)
    (hQ : ∀ c a d v w, Q (.panic c) (Act.put a d v) w → Q (.panic c) a w)
    (h : TV P n W l.toArray Q L0 (is.map (·.2)) (is.filterMap fun p => l[p.1]?) fr L) : T P n W (.region id l.toArray true) Q fr L := ⟨fun a w hr hmm => by
  simp only [orderB, Bool.and_eq_true] at hB
  obtain ⟨⟨⟨h1, h2⟩, h3⟩, h4⟩ := hB
  have hlen := Nat.eq_of_beq_eq_true h1
  refine wp_region_any hm ?_
  have hall : ∀ p ∈ is, p.1 < l.length := fun p hp => Nat.le_of_ble_eq_true (List.all_eq_true.1 h4 p hp)
  have hget : ∀ (is : List (Nat × Bool)), (∀ p ∈ is, p.1 < l.length) → ∀ (j : Nat), ((is.filterMap fun p => l[p.1]?)[j]? : Option Oper) = (is[j]?).bind fun (p : Nat × Bool) => l.toArray[p.1]? := by
    intro is
    induction is with
    | nil => intro _ j; simp
    | cons p is ih =>
      intro hp j
      have hp0 := hp p (by simp)
      have e0 : (fun (p : Nat × Bool) => l[p.1]?) p = some l[p.1] := List.getElem?_eq_getElem hp0
      rw [List.filterMap_cons_some (f := fun (p : Nat × Bool) => l[p.1]?) e0]
      cases j with
      | zero => simp [hp0]
      | succ j => simpa using ih (fun q hq => hp q (by simp [hq])) j
  have hlen2 : ∀ (is : List (Nat × Bool)), (∀ p ∈ is, p.1 < l.length) → (is.filterMap fun p => l[p.1]?).length = is.length := by
    intro is
    induction is with
    | nil => intro _; simp
    | cons p is ih =>
      intro hp
      have e0 : (fun (p : Nat × Bool) => l[p.1]?) p = some (l[p.1]'(hp p (by simp))) := List.getElem?_eq_getElem (hp p (by simp))
      rw [List.filterMap_cons_some (f := fun (p : Nat × Bool) => l[p.1]?) e0]
      simp [ih (fun q hq => hp q (by simp [hq]))]
  have hsz : l.toArray.size = is.length := by rw [hlen]; simp
  have := wpAny_of_V (U := Mem W L0) is.length (Array.replicate l.toArray.size false) a (Mem W L) w.drew hmm.drew
    (wpAnyV_lex h2 hQ is _ _ a (Mem W L) (closed_mem W L) hsub (hget is hall) (hlen2 is hall) h3 (h.go a hr))
  rw [← hsz] at this
  exact this⟩
theorem TV_val (hr : RR P n W o fr L0 v) (hg : o.guard = none) (hd : o.dst = some d) (hn : Nat.blt d n = true) (h : TV P n W ops Q L0 ks rest ((d, v) :: fr) L) : TV P n W ops Q L0 (true :: ks) (o :: rest) fr L := ⟨fun a hrep =>
  ⟨v, by rw [if_pos (wanted_none hg)]; intro w hw; unfold calmAt; rw [hr.go a w hrep hw]; exact ⟨rfl, Gr.refl _⟩, by rw [hd]; exact h.go _ (hrep.put hn v)⟩⟩
theorem TV_gval {j e : Nat} {b : Bool} (hr : RR P n W o fr L0 v) (hg : o.guard = some (j, b)) (hj : (ops[j]?).bind (·.dst) = some e) (hl : look fr e = some (.bool b)) (hd : o.dst = some d) (hn : Nat.blt d n = true) (h : TV P n W ops Q L0 ks rest ((d, v) :: fr) L) : TV P n W ops Q L0 (true :: ks) (o :: rest) fr L := ⟨fun a hrep =>
  ⟨v, by rw [if_pos (wanted_yes hrep hg hj hl)]; intro w hw; unfold calmAt; rw [hr.go a w hrep hw]; exact ⟨rfl, Gr.refl _⟩, by rw [hd]; exact h.go _ (hrep.put hn v)⟩⟩
theorem TV_skip {j e : Nat} {b : Bool} {u : Value} (hg : o.guard = some (j, b)) (hj : (ops[j]?).bind (·.dst) = some e) (hl : look fr e = some u) (hu : notB b u = true) (hd : o.dst = some d) (hn : Nat.blt d n = true) (h : TV P n W ops Q L0 ks rest ((d, undef) :: fr) L) : TV P n W ops Q L0 (true :: ks) (o :: rest) fr L := ⟨fun a hrep =>
  ⟨undef, by rw [wanted_no hrep hg hj hl hu]; rfl, by rw [hd]; exact h.go _ (hrep.put hn undef)⟩⟩
theorem TV_call {f : FuncId} {args : Array Value} (he : ∀ a w, Rep n a fr → (execOp a.eval o).run P w = .ok (.enter f args) w) (hc : ∀ w, Mem W L0 w → Calls P f args w (Meets (ret v) w)) (hg : o.guard = none) (hd : o.dst = some d) (hn : Nat.blt d n = true)
    (h : TV P n W ops Q L0 ks rest ((d, v) :: fr) L) : TV P n W ops Q L0 (true :: ks) (o :: rest) fr L := ⟨fun a hrep =>
  ⟨v, by rw [if_pos (wanted_none hg)]; intro w hw; unfold calmAt; rw [he a w hrep]; exact ⟨Gr.refl _, (hc w hw).mono fun _ _ h => of_meets h⟩, by rw [hd]; exact h.go _ (hrep.put hn v)⟩⟩
/-- an operation of any kind, walked as in the text's order -/
theorem TV_do (h : TL P n W ops (Exit.then (fun a' w' => ∃ S', Closed S' ∧ (∀ x, S' x → Mem W L0 x) ∧ S' w' ∧ wpV P ops Q (Mem W L0) ks rest a' S') Q) [o] fr L) : TV P n W ops Q L0 (false :: ks) (o :: rest) fr L := ⟨fun a hrep w hw => h.go a w hrep hw⟩
theorem TV_on {Q' : Exit → Act → World → Prop} {L' : List Own} {fr' : Fr} (hsub : ∀ w, Mem W L' w → Mem W L0 w) (h : TV P n W ops Q L0 ks rest fr' L') : TL P n W ops (Exit.then (fun a' w' => ∃ S', Closed S' ∧ (∀ x, S' x → Mem W L0 x) ∧ S' w' ∧ wpV P ops Q (Mem W L0) ks rest a' S') Q') [] fr' L' :=
  TL_nil ⟨fun a w hr hm => ⟨Mem W L', closed_mem _ _, hsub, hm, h.go a hr⟩⟩
theorem TV_nil (h : E n W .normal Q fr L) : TV P n W ops Q L0 [] [] fr L := ⟨fun a hr w hw => h.go a w hr hw⟩
theorem sub_pick {L' : List Own} (is : List Nat) (hn : is.Nodup) (hl : L' = is.filterMap fun i => L[i]?) : ∀ w, Mem W L w → Mem W L' w := fun w h => h.pick is hn hl
theorem sub_nil : ∀ w, Mem W L w → Mem W [] w := fun w h => ⟨h.low, OwnsP.nil _⟩
theorem TV_valg (hg : o.guard = none) (hr : RR P n W o fr L0 v) (hd : o.dst = some d) (hn : Nat.blt d n = true) (h : TV P n W ops Q L0 ks rest ((d, v) :: fr) L) : TV P n W ops Q L0 (true :: ks) (o :: rest) fr L := TV_val hr hg hd hn h
theorem TV_gvalg {j e : Nat} {b : Bool} (hg : o.guard = some (j, b)) (hj : (ops[j]?).bind (·.dst) = some e) (hl : look fr e = some (.bool b)) (hr : RR P n W o fr L0 v) (hd : o.dst = some d) (hn : Nat.blt d n = true) (h : TV P n W ops Q L0 ks rest ((d, v) :: fr) L) : TV P n W ops Q L0 (true :: ks) (o :: rest) fr L := TV_gval hr hg hj hl hd hn h
end
end Go.Proofs.Ytnicebdkejkieaa.eng
