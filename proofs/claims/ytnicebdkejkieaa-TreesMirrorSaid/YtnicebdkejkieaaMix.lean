/- A region that draws its order, walked once: calm operations (reads, quiet calls, calls that only make new memory) may come up at any time; a maker must be the only one that may come up; a tail in forced order is an ordinary list. -/
import Derived.WalkKit
import Derived.Deep.Quiet
import Derived.StillTail
namespace Go.Proofs.Ytnicebdkejkieaa.mix
open Go.RowKit

/-- the second world is the first one, with new memory -/
abbrev Gr (w w' : World) : Prop := Below w.heap.size w w'
theorem Gr.refl (w : World) : Gr w w := Below.refl _ _
theorem Gr.trans {a b c : World} (h : Gr a b) (k : Gr b c) : Gr a c := Below.trans h (k.mono h.size)
theorem Gr.drew (w : World) : Gr w w.drew := (Below.refl _ _).drew
def Up (w w' : World) : Prop := Gr w w'
def Closed (S : World → Prop) : Prop := ∀ w w', S w → Gr w w' → S w'
theorem closed_up (w : World) : Closed (Up w) := fun _ _ h k => Gr.trans h k

theorem gr_same {P : Program} {f : FuncId} {args : Array Value} {w : World} {v : Value} (h : Calls P f args w fun e w' => e = .returned v ∧ w = w') : Calls P f args w fun e w' => e = .returned v ∧ Gr w w' :=
  h.mono fun _ _ ⟨h1, h2⟩ => ⟨h1, by subst h2; exact Gr.refl _⟩

section
variable {P : Program} {ops : Array Oper} {md : Region.Mode} {Q : Exit → Act → World → Prop}

def calmUpon (P : Program) (w : World) (v : Value) : Result Next → Prop
  | .ok (.value u) w' => u = v ∧ Gr w w'
  | .ok .skip w' => v = undef ∧ Gr w w'
  | .ok (.enter f args) w' => Gr w w' ∧ Calls P f args w' (fun e w'' => e = .returned v ∧ Gr w' w'')
  | _ => False
def calmAt (P : Program) (o : Oper) (a : Act) (w : World) (v : Value) : Prop := calmUpon P w v ((execOp a.eval o).run P w)
/-- in every world of the class the operation leaves one value, and only new memory -/
def CalmIn (P : Program) (ops : Array Oper) (S : World → Prop) (o : Oper) (v : Value) (a : Act) : Prop :=
  (Region.wanted o (yielded ops a.tmps) = true ∧ ∀ w, S w → calmAt P o a w v) ∨ (Region.wanted o (yielded ops a.tmps) = false ∧ v = undef)

theorem CalmIn.mono {S S' : World → Prop} {o : Oper} {v : Value} {a : Act} (hs : ∀ w, S' w → S w) (h : CalmIn P ops S o v a) : CalmIn P ops S' o v a :=
  h.imp (fun ⟨h1, h2⟩ => ⟨h1, fun w hw => h2 w (hs w hw)⟩) id
theorem CalmIn.of_same {S : World → Prop} {o : Oper} {v : Value} {a a' : Act} (hy : CalmIn P ops S o v a) (he : execOp a'.eval o = execOp a.eval o)
    (hw : Region.wanted o (yielded ops a'.tmps) = Region.wanted o (yielded ops a.tmps)) : CalmIn P ops S o v a' := by
  unfold CalmIn calmAt at *
  rw [he, hw]
  exact hy
theorem CalmIn.wpOp {S : World → Prop} {i : Nat} {o : Oper} {v : Value} {a : Act} (hi : ops[i]? = some o) (hy : CalmIn P ops S o v a) (hcl : Closed S)
    {K : Act → World → Prop} {w : World} (hS : S w) (h : ∀ w', S w' → K (a.put o.dst v) w') : wpOp P ops Q i K a w := by
  unfold Go.wpOp
  simp only [hi]
  rcases hy with ⟨hw, hv⟩ | ⟨hw, rfl⟩
  · simp only [hw, if_true]
    refine .inl ?_
    have h1 := hv w hS
    unfold calmAt at h1
    unfold Oper.wp
    generalize (execOp a.eval o).run P w = r at *
    cases r with
    | ok n w' =>
      cases n <;> simp only [calmUpon] at h1 <;> simp only [Oper.upon]
      case value u => rw [h1.1]; exact h _ (hcl _ _ hS h1.2)
      case skip => rw [← h1.1]; exact h _ (hcl _ _ hS h1.2)
      case enter f args =>
        refine h1.2.mono fun e w'' ⟨he, hg⟩ => ?_
        subst he
        exact h _ (hcl _ _ (hcl _ _ hS h1.1) hg)
    | halt x w' => simp only [calmUpon] at h1
  · simp only [hw, Bool.false_eq_true, if_false]; exact h _ hS

/-- what is kept of the operation in hand while another one is carried out -/
theorem wpOp_calm {S : World → Prop} {j : Nat} {oi oj : Oper} {v : Value} (hj : ops[j]? = some oj) (hap : oi.apart ops oj = true)
    (hsi : ∀ cs b, oi.op ≠ .select cs b) (hsj : ∀ cs b, oj.op ≠ .select cs b)
    (hQ : ∀ c a w, Q (.panic c) (a.put oi.dst v) w → Q (.panic c) a w) {K : Act → World → Prop} {a : Act} {w : World}
    (hy : CalmIn P ops S oi v a) (h : wpOp P ops Q j K (a.put oi.dst v) w) :
    wpOp P ops Q j (fun a' w' => CalmIn P ops S oi v a' ∧ K (a'.put oi.dst v) w') a w := by
  obtain ⟨h1, h2, h3⟩ := Oper.apart_spec hap
  have keep : ∀ (a : Act), CalmIn P ops S oi v a → ∀ u, CalmIn P ops S oi v (a.put oj.dst u) := fun a hy u =>
    hy.of_same (execOp_put oi hsi a oj.dst u h3) (wanted_put oi a oj.dst u h3)
  have keepD : ∀ d, CalmIn P ops S oi v { a with defers := d :: a.defers } := fun d => hy.of_same rfl rfl
  unfold wpOp at *
  simp only [hj] at *
  rw [wanted_put oj a oi.dst v h1] at h
  split
  · rename_i hw
    simp only [hw, if_true] at h
    rcases h with h | ⟨hasks, hlets⟩
    case inr => exact .inr ⟨by unfold Oper.asks at *; rw [execOp_put oj hsj a oi.dst v h1] at hasks; exact hasks, hlets⟩
    refine .inl ?_
    unfold Oper.wp at *
    rw [execOp_put oj hsj a oi.dst v h1] at h
    generalize (execOp a.eval oj).run P w = r at *
    cases r with
    | ok n w' =>
      cases n <;> simp only [Oper.upon] at h ⊢
      case value u => exact ⟨keep a hy u, by rw [← Act.put_comm a v u h2]; exact h⟩
      case skip => exact ⟨keep a hy _, by rw [← Act.put_comm a v undef h2]; exact h⟩
      case defer d =>
        refine ⟨keep _ (keepD d) _, ?_⟩
        rw [← Act.put_comm _ v undef h2, ← Act.put_defers]
        exact h
      case enter f args =>
        refine Calls.mono h fun e w'' he => ?_
        cases e with
        | returned u => exact ⟨keep a hy u, by rw [← Act.put_comm a v u h2]; exact he⟩
        | panicked c => exact hQ _ _ _ he
        | outgrown => exact he
      case row row args => exact Rows.mono h fun u w'' he => ⟨keep a hy u, by rw [← Act.put_comm a v u h2]; exact he⟩
    | halt x w' =>
      cases x <;> simp only [Oper.upon] at h ⊢
      case panic u => exact hQ _ _ _ h
  · rename_i hw
    simp only [hw] at h
    exact ⟨keep a hy _, by rw [← Act.put_comm a v undef h2]; exact h⟩

/-- whatever order the operations of the front come up in; behind each a class of worlds, no greater one -/
def wpAnyG (P : Program) (md : Region.Mode) (ops : Array Oper) (Q : Exit → Act → World → Prop) (n : Nat) (L : Array Bool → Act → World → Prop) : Nat → Array Bool → Act → (World → Prop) → Prop
  | 0, listed, a, S => ∀ w, S w → L listed a w
  | f + 1, listed, a, S => Region.ready md ops listed ≠ [] ∧
    ∀ i ∈ Region.ready md ops listed, i < n ∧ ∀ w, S w → wpOp P ops Q i (fun a' w' => ∃ S', Closed S' ∧ (∀ x, S' x → S x) ∧ S' w' ∧ wpAnyG P md ops Q n L f (listed.setIfInBounds i true) a' S') a w

theorem wpAny_of_G {n g : Nat} {L : Array Bool → Act → World → Prop} (hL : ∀ listed a w, L listed a w → wpAny P md ops Q g listed a w) :
    ∀ (f : Nat) (listed : Array Bool) (a : Act) (S : World → Prop) (w : World), S w → wpAnyG P md ops Q n L f listed a S → wpAny P md ops Q (f + g) listed a w
  | 0, listed, a, S, w, hw, h => by rw [Nat.zero_add]; exact hL _ _ _ (h w hw)
  | f + 1, listed, a, S, w, hw, h => by
    rw [show f + 1 + g = (f + g) + 1 by omega]
    exact ⟨fun h0 => absurd h0 h.1, fun i hi => wpOp_mono (fun a' w' ⟨S', _, _, hw', h'⟩ => wpAny_of_G hL f _ a' S' w' hw' h') ((h.2 i hi).2 w hw)⟩

theorem wpAnyG_first {n i : Nat} {oi : Oper} {v : Value} {L : Array Bool → Act → World → Prop} (hi : ops[i]? = some oi) (hsel : ∀ (j : Nat) (o : Oper) cs b, ops[j]? = some o → o.op ≠ .select cs b)
    (hs : Region.sinkB md ops n = true) (hc : Region.chainB md ops n = true) (hn : n < ops.size) (hin : i < n)
    (hQ : ∀ c a w, Q (.panic c) (a.put oi.dst v) w → Q (.panic c) a w)
    (hdone : ∀ listed a w, L listed a w → ∀ j ∈ Region.ready md ops listed, n ≤ j) :
    ∀ (f : Nat) (listed : Array Bool) (a : Act) (S : World → Prop), Closed S → HeadInv md ops n listed →
      (∀ j oj, ops[j]? = some oj → j ≠ i → listed.getD j true = false → (∀ e ∈ oj.after, Region.binds md e = true → e.on ≠ i) → oi.apart ops oj = true) →
      i ∈ Region.ready md ops listed → CalmIn P ops S oi v a →
      wpAnyG P md ops Q n L f (listed.setIfInBounds i true) (a.put oi.dst v) S → wpAnyG P md ops Q n L (f + 1) listed a S := by
  intro f
  induction f with
  | zero =>
    intro listed a S hcl inv _ hr hy H
    have hun := (mem_ready.1 hr).1
    refine ⟨fun h => (by rw [h] at hr; cases hr), fun j hj => ?_⟩
    have hjn : j < n := by
      rcases Nat.lt_or_ge j n with h | h
      · exact h
      · exact absurd hj (tail_waits hs hc hn inv _ i rfl hin hun j h)
    refine ⟨hjn, fun w hw => ?_⟩
    by_cases hji : j = i
    · subst hji; exact hy.wpOp hi hcl hw fun w' hw' => ⟨S, hcl, fun _ h => h, hw', H⟩
    · have := hdone _ _ _ (H w hw) j (ready_mono hj hji)
      omega
  | succ f ih =>
    intro listed a S hcl inv hfree hr hy H
    have hun := (mem_ready.1 hr).1
    refine ⟨fun h => (by rw [h] at hr; cases hr), fun j hj => ?_⟩
    have hjn : j < n := by
      rcases Nat.lt_or_ge j n with h | h
      · exact h
      · exact absurd hj (tail_waits hs hc hn inv _ i rfl hin hun j h)
    refine ⟨hjn, fun w hw => ?_⟩
    by_cases hji : j = i
    · subst hji; exact hy.wpOp hi hcl hw fun w' hw' => ⟨S, hcl, fun _ h => h, hw', H⟩
    · have h1 := (H.2 j (ready_mono hj hji)).2 w hw
      obtain ⟨hjun, oj, hoj, hall⟩ := mem_ready.1 hj
      have hnot : ∀ e ∈ oj.after, Region.binds md e = true → e.on ≠ i := fun e he hb heq => by
        have h1 := hall e he hb
        rw [heq, getD_both hun] at h1
        cases h1
      have h2 := wpOp_calm hoj (hfree j oj hoj hji hjun hnot) (fun cs b => hsel i oi cs b hi) (fun cs b => hsel j oj cs b hoj) hQ hy h1
      have hfree' : ∀ k ok, ops[k]? = some ok → k ≠ i → (listed.setIfInBounds j true).getD k true = false →
          (∀ e ∈ ok.after, Region.binds md e = true → e.on ≠ i) → oi.apart ops ok = true := fun k ok hk hki hun hno => by
        refine hfree k ok hk hki ?_ hno
        by_cases hjk : j = k
        · subst hjk; exact hjun
        · rw [getD_set_ne true hjk] at hun; exact hun
      refine wpOp_mono (fun a' w' h3 => ?_) h2
      obtain ⟨h3, S', hcl', hsub, hw', h4⟩ := h3
      refine ⟨S', hcl', hsub, hw', ih (listed.setIfInBounds j true) a' S' hcl' (inv.set hj hjn) hfree' (ready_mono hr (Ne.symm hji)) (h3.mono hsub) ?_⟩
      rw [Array.setIfInBounds_comm _ _ hji]
      exact h4

/-- THE WALK of the front, in the text's order: 'true': a calm operation; 'false': a maker; then the tail. -/
def wpM (P : Program) (ops : Array Oper) (Q : Exit → Act → World → Prop) (L : Act → World → Prop) : List Bool → List Oper → Act → (World → Prop) → Prop
  | true :: ks, o :: rest, a, S => ∃ v, (if Region.wanted o (yielded ops a.tmps) then ∀ w, S w → calmAt P o a w v else v = undef) ∧ wpM P ops Q L ks rest (a.put o.dst v) S
  | false :: ks, o :: rest, a, S => ∀ w, S w → if Region.wanted o (yielded ops a.tmps) then
      o.wp P a w (fun a' w' => ∃ S', Closed S' ∧ (∀ x, S' x → S x) ∧ S' w' ∧ wpM P ops Q L ks rest a' S') Q
    else wpM P ops Q L ks rest (a.put o.dst undef) S
  | _, _, a, S => ∀ w, S w → L a w

def orderM (md : Region.Mode) (ops : Array Oper) (g : Nat) : List Bool → Nat → Array Bool → Bool
  | true :: ks, k, listed => (Region.ready md ops listed).contains k && Region.free md ops listed k && orderM md ops g ks (k + 1) (listed.setIfInBounds k true)
  | false :: ks, k, listed => decide (Region.ready md ops listed = [k]) && orderM md ops g ks (k + 1) (listed.setIfInBounds k true)
  | [], k, listed => Region.seqB md ops g k listed
def lexM (md : Region.Mode) (ops : Array Oper) (ks : List Bool) : Bool :=
  Region.noSelect ops && decide (ks.length < ops.size) && Region.sinkB md ops ks.length && Region.chainB md ops ks.length && orderM md ops (ops.size - ks.length) ks 0 (Array.replicate ops.size false)

theorem wpAnyG_lex {n g : Nat} {Lq : Act → World → Prop} (hsel : Region.noSelect ops = true) (hs : Region.sinkB md ops n = true) (hc : Region.chainB md ops n = true) (hn : n < ops.size)
    (hQ : ∀ c a d v w, Q (.panic c) (a.put d v) w → Q (.panic c) a w) :
    ∀ (ks : List Bool) (l : List Oper) (k : Nat) (listed : Array Bool) (a : Act) (S : World → Prop), Closed S → l.length = ks.length → (∀ j, j < l.length → l[j]? = ops[k + j]?) → k + l.length = n → HeadInv md ops n listed →
    orderM md ops g ks k listed = true → wpM P ops Q Lq ks l a S →
    wpAnyG P md ops Q n (fun listed' a' w' => Region.seqB md ops g n listed' = true ∧ Lq a' w') ks.length listed a S
  | [], [], k, listed, a, S, _, _, _, hk, _, hB, h => by
    have : k = n := by simpa using hk
    subst this
    exact fun w hw => ⟨by simpa [orderM] using hB, h w hw⟩
  | [], _ :: _, _, _, _, _, _, hlen, _, _, _, _, _ => by simp at hlen
  | _ :: _, [], _, _, _, _, _, hlen, _, _, _, _, _ => by simp at hlen
  | true :: ks, o :: l, k, listed, a, S, hcl, hlen, hl, hk, inv, hB, h => by
    have h0 : ops[k]? = some o := by simpa using (hl 0 (by simp)).symm
    simp only [orderM, Bool.and_eq_true] at hB
    obtain ⟨⟨hr, hf⟩, hB'⟩ := hB
    have hkn : k < n := by simp only [List.length_cons] at hk; omega
    have hr' : k ∈ Region.ready md ops listed := by simpa using hr
    obtain ⟨v, hy, hK⟩ := h
    have hy' : CalmIn P ops S o v a := by
      by_cases hw : Region.wanted o (yielded ops a.tmps) = true
      · rw [if_pos hw] at hy; exact .inl ⟨hw, hy⟩
      · rw [if_neg hw] at hy; exact .inr ⟨by simpa using hw, hy⟩
    exact wpAnyG_first h0 (Region.noSelect_spec hsel) hs hc hn hkn (fun c a w => hQ c a o.dst v w) (fun listed' a' w' hL => seqB_ready hL.1) ks.length listed a S hcl inv (Region.free_spec h0 hf) hr' hy'
      (wpAnyG_lex hsel hs hc hn hQ ks l (k + 1) _ _ S hcl (by simpa using hlen) (fun j hj => by have := hl (j + 1) (by simp; omega); simpa [Nat.add_assoc, Nat.add_comm 1 j] using this) (by simp only [List.length_cons] at hk; omega) (inv.set hr' hkn) hB' hK)
  | false :: ks, o :: l, k, listed, a, S, hcl, hlen, hl, hk, inv, hB, h => by
    have h0 : ops[k]? = some o := by simpa using (hl 0 (by simp)).symm
    simp only [orderM, Bool.and_eq_true, decide_eq_true_eq] at hB
    obtain ⟨hr, hB'⟩ := hB
    have hkn : k < n := by simp only [List.length_cons] at hk; omega
    have hr' : k ∈ Region.ready md ops listed := by simp [hr]
    have next : ∀ a' S', Closed S' → wpM P ops Q Lq ks l a' S' → wpAnyG P md ops Q n (fun listed' a' w' => Region.seqB md ops g n listed' = true ∧ Lq a' w') ks.length (listed.setIfInBounds k true) a' S' := fun a' S' hcl' hK =>
      wpAnyG_lex hsel hs hc hn hQ ks l (k + 1) _ _ S' hcl' (by simpa using hlen) (fun j hj => by have := hl (j + 1) (by simp; omega); simpa [Nat.add_assoc, Nat.add_comm 1 j] using this) (by simp only [List.length_cons] at hk; omega) (inv.set hr' hkn) hB' hK
    refine ⟨by rw [hr]; simp, fun i hi => ?_⟩
    obtain rfl : i = k := by rw [hr] at hi; simpa using hi
    refine ⟨hkn, fun w hw => ?_⟩
    have h1 := h w hw
    unfold wpOp
    simp only [h0]
    split
    · rename_i hwt
      rw [if_pos hwt] at h1
      exact .inl (Oper.wp_mono (fun a' w' ⟨S', hcl', hsub, hw', hK⟩ => ⟨S', hcl', hsub, hw', next _ _ hcl' hK⟩) h1)
    · rename_i hwt
      rw [if_neg hwt] at h1
      exact ⟨S, hcl, fun _ h => h, hw, next _ _ hcl h1⟩

/-- THE RULE. 'ks': a mark for each operation of the front ('true': calm; 'false': a maker); what is behind them is the tail. 'S': a class of worlds that grows with new memory. -/
theorem wp_region_mix {id : Nat} {a : Act} {w : World} {l : List Oper} (ks : List Bool) (hm : P.follows .mixedOrders = true) (hB : lexM .any l.toArray ks = true)
    (hQ : ∀ c a d v w, Q (.panic c) (a.put d v) w → Q (.panic c) a w) (S : World → Prop) (hcl : Closed S) (hS : S w.drew)
    (h : wpM P l.toArray Q (fun a' w' => wpList P l.toArray Q (l.drop ks.length) a' w') ks (l.take ks.length) a S) : (Code.region id l.toArray true).wp P Q a w := by
  simp only [lexM, Bool.and_eq_true, decide_eq_true_eq] at hB
  obtain ⟨⟨⟨⟨hsel, hn⟩, hs⟩, hc⟩, hlex⟩ := hB
  have hn' : ks.length < l.length := by simpa using hn
  have htl : (l.take ks.length).length = ks.length := by simp; omega
  have hdl : (l.drop ks.length).length = l.toArray.size - ks.length := by simp
  have inv0 : HeadInv .any l.toArray ks.length (Array.replicate l.toArray.size false) :=
    ⟨by simp, fun j oj _ hl => (by rw [getD_replicate_false] at hl; cases hl), fun t _ ht => getD_in (by simpa using ht) (getD_replicate_false _ _)⟩
  have H := wpAnyG_lex (md := .any) (g := l.toArray.size - ks.length) hsel hs hc hn hQ ks (l.take ks.length) 0 _ a S hcl htl (fun j hj => by
    have hj' : j < ks.length := by rw [htl] at hj; exact hj
    simp [hj']) (by simpa using htl) inv0 hlex h
  refine wp_region_any hm ?_
  have := wpAny_of_G (Q := Q) (g := l.toArray.size - ks.length) (fun listed a' w' hL => by
    have := wpAny_of_seq (md := .any) (Q' := Q) (l.drop ks.length) ks.length listed a' w' (fun j => by simp [List.getElem?_drop]) (by rw [hdl]; exact hL.1) hL.2
    rwa [hdl] at this) _ _ _ S w.drew hS H
  rw [show ks.length + (l.toArray.size - ks.length) = l.toArray.size by omega] at this
  exact this

/-- the same, the number of the front's operations written out -/
theorem mix {id : Nat} {a : Act} {w : World} {l : List Oper} (n : Nat) (ks : List Bool) (hn : ks.length = n) (hm : P.follows .mixedOrders = true) (hB : lexM .any l.toArray ks = true)
    (hQ : ∀ c a d v w, Q (.panic c) (a.put d v) w → Q (.panic c) a w) (S : World → Prop) (hcl : Closed S) (hS : S w.drew)
    (h : wpM P l.toArray Q (fun a' w' => wpList P l.toArray Q (l.drop n) a' w') ks (l.take n) a S) : (Code.region id l.toArray true).wp P Q a w := by
  subst hn; exact wp_region_mix ks hm hB hQ S hcl hS h

section
variable {L : Act → World → Prop} {ks : List Bool} {o : Oper} {rest : List Oper} {a : Act} {S : World → Prop}
/-- an operation that yields a value and leaves the world as it is -/
theorem wpM_val {u : Value} (hw : Region.wanted o (yielded ops a.tmps) = true) (h : ∀ w, S w → (execOp a.eval o).run P w = .ok (.value u) w) (hk : wpM P ops Q L ks rest (a.put o.dst u) S) :
    wpM P ops Q L (true :: ks) (o :: rest) a S :=
  ⟨u, by rw [if_pos hw]; intro w hS; unfold calmAt; rw [h w hS]; exact ⟨rfl, Gr.refl _⟩, hk⟩
theorem wpM_move (x : Operand) (hg : o.guard = none) (ho : o.op = .move x) (hk : wpM P ops Q L ks rest (a.put o.dst (a.eval x)) S) : wpM P ops Q L (true :: ks) (o :: rest) a S :=
  wpM_val (by simp [Region.wanted, hg]) (fun w _ => BigFrame.run_move x ho w) hk
/-- an operation that is passed over -/
theorem wpM_skip (hw : Region.wanted o (yielded ops a.tmps) = false) (hk : wpM P ops Q L ks rest (a.put o.dst undef) S) :
    wpM P ops Q L (true :: ks) (o :: rest) a S :=
  ⟨undef, by rw [if_neg (by rw [hw]; exact Bool.false_ne_true)], hk⟩
/-- a call that hands back one value, whatever world of the class it is made in, and leaves new memory alone -/
theorem wpM_call {f : FuncId} {args : Array Value} {v : Value} (hw : Region.wanted o (yielded ops a.tmps) = true) (he : ∀ w, (execOp a.eval o).run P w = .ok (.enter f args) w)
    (hc : ∀ w, S w → Calls P f args w fun e w' => e = .returned v ∧ Gr w w') (hk : wpM P ops Q L ks rest (a.put o.dst v) S) :
    wpM P ops Q L (true :: ks) (o :: rest) a S :=
  ⟨v, by rw [if_pos hw]; intro w hS; unfold calmAt; rw [he w]; exact ⟨Gr.refl _, hc w hS⟩, hk⟩
/-- a maker: whatever it leaves, new memory alone -/
theorem wpM_maker (hg : o.guard = none) (hcl : Closed S)
    (h : ∀ w, S w → (∀ x, Gr w x → S x) → ∀ K : Act → World → Prop, (∀ a' w', Gr w w' → wpM P ops Q L ks rest a' (Up w') → K a' w') → o.wp P a w K Q) :
    wpM P ops Q L (false :: ks) (o :: rest) a S := fun w hw => by
  rw [if_pos (by simp [Region.wanted, hg])]
  exact h w hw (fun x hx => hcl w x hw hx) _ fun a' w' hg hK => ⟨Up w', closed_up _, fun x hx => hcl w x hw (Gr.trans hg hx), Gr.refl _, hK⟩
theorem wpM_end {l : List Oper} (h : ∀ w, S w → L a w) : wpM P ops Q L [] l a S := h
end
end
end Go.Proofs.Ytnicebdkejkieaa.mix
