/- A region that draws its order, in which many makers stand that no order binds: whichever comes first, frame and memory are the same at the end. -/
import Derived.Test.YtnicebdkejkieaaMixW
import Derived.Test.YtnicebdkejkieaaRoom
namespace Go.Proofs.Ytnicebdkejkieaa.eng
open Go.RowKit kit mix
theorem OwnsP.perm {p : Nat → Prop} {w : World} {L L' : List Own} (h : OwnsP p w L) (hp : L.Perm L') : OwnsP p w L' := by
  have hpw : L.Pairwise (fun o o' => ∀ k, o.foot k → ¬ o'.foot k) := List.pairwise_iff_getElem.2 fun i j hi hj hij => h.apart i j _ _ (by omega) (List.getElem?_eq_getElem hi) (List.getElem?_eq_getElem hj)
  have hpw' := List.pairwise_iff_getElem.1 ((hp.pairwise_iff (fun hxy k h1 h2 => hxy k h2 h1)).1 hpw)
  refine ⟨fun i o hi => ?_, fun i j o o' hij hi hj k h1 h2 => ?_⟩
  · obtain ⟨j, hj⟩ := List.getElem?_of_mem (hp.symm.subset (List.mem_of_getElem? hi))
    exact h.all j o hj
  · obtain ⟨hi', rfl⟩ := List.getElem?_eq_some_iff.1 hi
    obtain ⟨hj', rfl⟩ := List.getElem?_eq_some_iff.1 hj
    rcases Nat.lt_or_gt_of_ne hij with h3 | h3
    · exact hpw' i j hi' hj' h3 k h1 h2
    · exact hpw' j i hj' hi' h3 k h2 h1
theorem Mem.perm {W : Base} {w : World} {L L' : List Own} (h : Mem W L w) (hp : L.Perm L') : Mem W L' w := ⟨h.low, h.owns.perm hp⟩
theorem look_perm {l l' : Fr} (hp : l.Perm l') : (l.map (·.1)).Nodup → ∀ (fr : Fr) (i : Nat), look (l ++ fr) i = look (l' ++ fr) i := by
  induction hp with
  | nil => intro _ _ _; rfl
  | cons x _ ih =>
    intro hn fr i
    rw [List.map_cons, List.nodup_cons] at hn
    obtain ⟨k, v⟩ := x
    show (bif Nat.beq k i then some v else _) = (bif Nat.beq k i then some v else _)
    have e := ih hn.2 fr i
    exact congrArg (fun z => bif Nat.beq k i then some v else z) e
  | swap x y l =>
    intro hn fr i
    obtain ⟨k, v⟩ := x
    obtain ⟨k2, v2⟩ := y
    simp only [List.map_cons, List.nodup_cons, List.mem_cons, not_or] at hn
    show (bif Nat.beq k2 i then some v2 else bif Nat.beq k i then some v else _) = (bif Nat.beq k i then some v else bif Nat.beq k2 i then some v2 else _)
    cases e : Nat.beq k2 i
    · rfl
    · cases e2 : Nat.beq k i
      · rfl
      · have a := Nat.eq_of_beq_eq_true e
        have b := Nat.eq_of_beq_eq_true e2
        exact absurd (a.trans b.symm) hn.1.1
  | trans h1 _ ih1 ih2 =>
    intro hn fr i
    rw [ih1 hn, ih2 ((h1.map _).nodup_iff.1 hn)]
theorem perm_lift {α β : Type} (f : α → β) {l l' : List β} (h : l.Perm l') : ∀ dn : List α, dn.map f = l → ∃ dn' : List α, dn'.Perm dn ∧ dn'.map f = l' := by
  induction h with
  | nil => exact fun dn h => ⟨dn, .refl _, h⟩
  | cons x _ ih =>
    intro dn h
    match dn, h with
    | y :: dn, h =>
      simp only [List.map_cons, List.cons.injEq] at h
      obtain ⟨d', h1, h2⟩ := ih dn h.2
      exact ⟨y :: d', h1.cons y, by simp [h.1, h2]⟩
  | swap x y l =>
    intro dn h
    match dn, h with
    | a :: b :: dn, h =>
      simp only [List.map_cons, List.cons.injEq] at h
      exact ⟨b :: a :: dn, List.Perm.swap _ _ _, by simp [h.1, h.2.1, h.2.2]⟩
  | trans _ _ ih1 ih2 =>
    intro dn h
    obtain ⟨d1, h1, h2⟩ := ih1 dn h
    obtain ⟨d2, h3, h4⟩ := ih2 d1 h2
    exact ⟨d2, h3.trans h1, h4⟩
def subs : List Nat → List (List Nat)
  | [] => [[]]
  | a :: r => subs r ++ (subs r).map (a :: ·)
theorem filter_subs (p : Nat → Bool) : ∀ l, l.filter p ∈ subs l
  | [] => by simp [subs]
  | a :: r => by
    have ih := filter_subs p r
    unfold subs
    rw [List.filter_cons]
    split
    · exact List.mem_append_right _ (List.mem_map_of_mem ih)
    · exact List.mem_append_left _ ih
/-- a maker of a region -/
structure Mk where
  i : Nat
  d : Nat
  v : Nat → Value
  own : Nat → Own
def frm (dn : List (Mk × Nat)) : Fr := dn.map fun x => (x.1.d, x.1.v x.2)
def owm (dn : List (Mk × Nat)) : List Own := dn.map fun x => x.1.own x.2
def markL (listed : Array Bool) (D : List Nat) : Array Bool := D.foldl (fun l i => l.setIfInBounds i true) listed
theorem markL_get (D : List Nat) : ∀ (listed : Array Bool) (j : Nat), (markL listed D)[j]? = (listed[j]?).map fun b => b || D.contains j := by
  induction D with
  | nil => intro listed j; simp [markL]
  | cons a r ih =>
    intro listed j
    show (markL (listed.setIfInBounds a true) r)[j]? = _
    rw [ih, Array.getElem?_setIfInBounds]
    by_cases c : a = j
    · subst c
      simp
      split <;> simp_all
    · rw [if_neg c]
      have : ¬ j = a := fun h => c h.symm
      simp [this]
theorem markL_same {listed : Array Bool} {D D' : List Nat} (h : ∀ j, D.contains j = D'.contains j) : markL listed D = markL listed D' := by
  apply Array.ext_getElem?
  intro j
  rw [markL_get, markL_get, h j]
def manyB (ops : Array Oper) (is : List Nat) (ends : List (List Nat)) (listed : Array Bool) : Bool := (subs is).all fun D => ends.contains D || decide (Region.ready .any ops (markL listed D) = is.filter fun i => !D.contains i)
theorem nodup_le : ∀ (l l' : List Nat), l.Nodup → (∀ x ∈ l, x ∈ l') → l.length ≤ l'.length
  | [], _, _, _ => Nat.zero_le _
  | a :: r, l', hn, hs => by
    rw [List.nodup_cons] at hn
    have ha := hs a (by simp)
    have := nodup_le r (l'.erase a) hn.2 fun x hx => (List.mem_erase_of_ne (fun (e : x = a) => hn.1 (by rw [← e]; exact hx))).2 (hs x (by simp [hx]))
    rw [List.length_erase_of_mem ha] at this
    have := List.length_pos_of_mem ha
    simp; omega
theorem nodup_perm : ∀ (l l' : List Nat), l.Nodup → (∀ x ∈ l, x ∈ l') → l'.length ≤ l.length → l.Perm l'
  | [], l', _, _, h => by
    have : l' = [] := List.length_eq_zero_iff.1 (by simpa using h)
    subst this; exact .refl _
  | a :: r, l', hn, hs, h => by
    rw [List.nodup_cons] at hn
    have ha := hs a (by simp)
    have hl := List.length_erase_of_mem ha
    have h2 := List.length_pos_of_mem ha
    have := nodup_perm r (l'.erase a) hn.2 (fun x hx => (List.mem_erase_of_ne (fun (e : x = a) => hn.1 (by rw [← e]; exact hx))).2 (hs x (by simp [hx]))) (by simp at h; omega)
    exact (this.cons a).trans (List.perm_cons_erase ha).symm
theorem inj_i : ∀ (ms : List Mk), (ms.map (·.i)).Nodup → ∀ m ∈ ms, ∀ m' ∈ ms, m.i = m'.i → m = m'
  | [], _, _, hm, _, _, _ => by cases hm
  | y :: ms, h, m, hm, m', hm', e => by
    rw [List.map_cons, List.nodup_cons] at h
    rcases List.mem_cons.1 hm with a1 | a1 <;> rcases List.mem_cons.1 hm' with a2 | a2
    · rw [a1, a2]
    · exact absurd (by rw [← a1, e]; exact List.mem_map_of_mem a2) h.1
    · exact absurd (by rw [← a2, ← e]; exact List.mem_map_of_mem a1) h.1
    · exact inj_i ms h.2 m a1 m' a2 e
theorem fst_of_i : ∀ (dn : List (Mk × Nat)) (ms all : List Mk), (∀ m ∈ all, ∀ m' ∈ all, m.i = m'.i → m = m') → (∀ x ∈ dn, x.1 ∈ all) → (∀ x ∈ ms, x ∈ all) → dn.map (·.1.i) = ms.map (·.i) → dn.map (·.1) = ms
  | [], ms, _, _, _, _, h => by
    simp only [List.map_nil] at h
    exact (List.map_eq_nil_iff.1 h.symm).symm
  | y :: dn, [], _, _, _, _, h => by simp at h
  | y :: dn, m :: ms, all, hi, h1, h2, h => by
    simp only [List.map_cons, List.cons.injEq] at h
    rw [List.map_cons, fst_of_i dn ms all hi (fun x hx => h1 x (by simp [hx])) (fun x hx => h2 x (by simp [hx])) h.2, hi y.1 (h1 y (by simp)) m (h2 m (by simp)) h.1]
section
variable {P : Program} {n : Nat} {W : Base} {Q : Exit → Act → World → Prop} {fr : Fr} {L L0 : List Own} {ops : Array Oper}
/-- what a maker does, from any frame that knows as much -/
def Makes (P : Program) (n : Nat) (W : Base) (ops : Array Oper) (fr : Fr) (m : Mk) : Prop :=
  ∃ o, ops[m.i]? = some o ∧ ∀ (Q : Exit → Act → World → Prop) (fr' : Fr) (L : List Own), (∀ q v, look fr q = some v → look fr' q = some v) → (∀ g, TL P n W ops Q [] ((m.d, m.v g) :: fr') (L ++ [m.own g])) → TL P n W ops Q [o] fr' L
theorem look_none : ∀ (l : Fr) {q : Nat} {v : Value}, (∀ x ∈ l, look fr x.1 = none) → look fr q = some v → look (l ++ fr) q = some v
  | [], _, _, _, h => h
  | (k, u) :: l, q, v, hl, h => by
    show (bif Nat.beq k q then some u else look (l ++ fr) q) = some v
    cases e : Nat.beq k q
    · exact look_none l (fun x hx => hl x (by simp [hx])) h
    · have := Nat.eq_of_beq_eq_true e
      subst this
      have := hl (k, u) (by simp)
      rw [this] at h
      cases h
theorem Rep.perm {a : Act} {l l' : Fr} (h : Rep n a (l ++ fr)) (hp : l.Perm l') (hn : (l.map (·.1)).Nodup) : Rep n a (l' ++ fr) :=
  ⟨h.size, h.defers, fun i v hl => h.get i v (by rw [look_perm hp hn fr i]; exact hl)⟩
theorem pick_g : ∀ (dn : List (Mk × Nat)), (dn.map (·.1.i)).Nodup → ∃ g : Nat → Nat, ∀ x ∈ dn, g x.1.i = x.2
  | [], _ => ⟨fun _ => 0, fun x hx => by cases hx⟩
  | y :: dn, h => by
    rw [List.map_cons, List.nodup_cons] at h
    obtain ⟨g, hg⟩ := pick_g dn h.2
    refine ⟨fun i => if i = y.1.i then y.2 else g i, fun x hx => ?_⟩
    rcases List.mem_cons.1 hx with rfl | hx
    · simp
    · have : ¬ x.1.i = y.1.i := fun e => h.1 (by rw [← e]; exact List.mem_map_of_mem hx)
      simp only [if_neg this]
      exact hg x hx
theorem many_canon (ms E : List Mk) (hn : (ms.map (·.i)).Nodup) (hEn : (E.map (·.i)).Nodup) (hEd : (E.map (·.d)).Nodup) (hE : ∀ m ∈ E, m ∈ ms) (dn : List (Mk × Nat)) (h1 : ∀ x ∈ dn, x.1 ∈ ms) (hp : (dn.map (·.1.i)).Perm (E.map (·.i))) (a : Act) (hr : Rep n a (frm dn ++ fr)) :
    ∃ g : Nat → Nat, Rep n a (E.map (fun m => (m.d, m.v (g m.i))) ++ fr) ∧ Mem W (L ++ owm dn) = Mem W (L ++ E.map fun m => m.own (g m.i)) := by
  obtain ⟨d', p1, p2⟩ := perm_lift (fun x : Mk × Nat => x.1.i) hp dn rfl
  have e1 := fst_of_i d' E ms (inj_i ms hn) (fun x hx => h1 x (p1.subset hx)) hE p2
  obtain ⟨g, hg⟩ := pick_g d' (by rw [p2]; exact hEn)
  have e2 : d' = E.map fun m => (m, g m.i) := by
    rw [← e1, List.map_map]
    conv => lhs; rw [← List.map_id d']
    exact List.map_congr_left fun x hx => by
      obtain ⟨m, q⟩ := x
      have := hg _ hx
      dsimp only at this
      simp [this]
  have hpd : ((frm dn).map (·.1)).Nodup := by
    have : ((frm dn).map (·.1)).Perm (E.map (·.d)) := by
      have h5 := (p1.map fun x : Mk × Nat => x.1.d).symm
      have e : d'.map (fun x : Mk × Nat => x.1.d) = E.map (·.d) := by rw [← e1, List.map_map]; rfl
      rw [e] at h5
      unfold frm
      rw [List.map_map]
      exact h5
    exact this.nodup_iff.2 hEd
  have hr' := hr.perm (p1.map _).symm hpd
  refine ⟨g, ?_, ?_⟩
  · have : d'.map (fun x => (x.1.d, x.1.v x.2)) = E.map (fun m => (m.d, m.v (g m.i))) := by rw [e2, List.map_map]; rfl
    rw [← this]; exact hr'
  · have e : E.map (fun m => m.own (g m.i)) = owm d' := by rw [e2, owm, List.map_map]; rfl
    rw [e]
    exact funext fun w => propext ⟨fun h => h.perm (((p1.map _).symm).append_left L), fun h => h.perm ((p1.map _).append_left L)⟩
theorem many_go (ms : List Mk) (ends : List (List Mk)) (listed : Array Bool) (U : World → Prop) (S0 : Nat) (hUL : ∀ l, ∀ w, Mem W (L ++ l) w → U w)
    (hn : (ms.map (·.i)).Nodup) (hd : (ms.map (·.d)).Nodup) (hB : manyB ops (ms.map (·.i)) (ends.map fun E => E.map (·.i)) listed = true) (hm : ∀ m ∈ ms, Makes P n W ops fr m) (hf : ∀ m ∈ ms, look fr m.d = none)
    (hEnd : ∀ E ∈ ms :: ends, (∀ m ∈ E, m ∈ ms) ∧ (E.map (·.i)).Nodup ∧ (E.map (·.d)).Nodup ∧ ∀ (k : Nat) (g : Nat → Nat) (a : Act), E.length + k = ms.length → Rep n a (E.map (fun m => (m.d, m.v (g m.i))) ++ fr) → wpAnyV P .any ops Q U (k + S0) (markL listed (E.map (·.i))) a (Mem W (L ++ E.map fun m => m.own (g m.i)))) :
    ∀ (k : Nat) (dn : List (Mk × Nat)), (∀ x ∈ dn, x.1 ∈ ms) → (dn.map (·.1.i)).Nodup → dn.length + k = ms.length → ∀ a, Rep n a (frm dn ++ fr) → wpAnyV P .any ops Q U (k + S0) (markL listed (dn.map (·.1.i))) a (Mem W (L ++ owm dn)) := by
  have stop : ∀ E ∈ ms :: ends, ∀ (k : Nat) (dn : List (Mk × Nat)), (∀ x ∈ dn, x.1 ∈ ms) → (dn.map (·.1.i)).Nodup → dn.length + k = ms.length → (dn.map (·.1.i)).Perm (E.map (·.i)) → ∀ a, Rep n a (frm dn ++ fr) → wpAnyV P .any ops Q U (k + S0) (markL listed (dn.map (·.1.i))) a (Mem W (L ++ owm dn)) := by
    intro E hE k dn h1 h2 h3 hp a hr
    obtain ⟨q1, q2, q3, q4⟩ := hEnd E hE
    obtain ⟨g, r1, r2⟩ := many_canon (W := W) (L := L) ms E hn q2 q3 q1 dn h1 hp a hr
    have hlen := hp.length_eq
    simp only [List.length_map] at hlen
    rw [r2, markL_same (D' := E.map (·.i)) fun j => ?_]
    · exact q4 k g a (by omega) r1
    · exact Bool.eq_iff_iff.2 (by simpa using hp.mem_iff)
  intro k
  induction k with
  | zero =>
    intro dn h1 h2 h3 a hr
    exact stop ms (by simp) 0 dn h1 h2 h3 (nodup_perm (dn.map (·.1.i)) (ms.map (·.i)) h2 (fun x hx => by
      obtain ⟨y, hy, rfl⟩ := List.mem_map.1 hx
      exact List.mem_map_of_mem (f := (·.i)) (h1 y hy)) (by simp; omega)) a hr
  | succ k ih =>
    intro dn h1 h2 h3 a hr
    have hstop := fun E hE hp => stop E hE (k + 1) dn h1 h2 h3 hp a hr
    have hsub : ∀ x ∈ dn.map (·.1.i), x ∈ ms.map (·.i) := fun x hx => by
      obtain ⟨y, hy, rfl⟩ := List.mem_map.1 hx
      exact List.mem_map_of_mem (f := (·.i)) (h1 y hy)
    generalize hD : dn.map (·.1.i) = D at *
    have hlenD : D.length = dn.length := by rw [← hD]; simp
    have hsame : ∀ j, D.contains j = ((ms.map (·.i)).filter fun i => D.contains i).contains j := fun j => by
      apply Bool.eq_iff_iff.2
      simp only [List.contains_iff_mem, List.mem_filter]
      exact ⟨fun h => ⟨hsub j h, h⟩, fun h => h.2⟩
    have hq := List.all_eq_true.1 hB _ (filter_subs (fun i => D.contains i) (ms.map (·.i)))
    rw [Bool.or_eq_true] at hq
    rcases hq with hq | hq
    · rw [List.contains_iff_mem] at hq
      obtain ⟨E, hE, e⟩ := List.mem_map.1 hq
      refine hstop E (by simp [hE]) ?_
      rw [e]
      refine nodup_perm _ _ h2 (fun x hx => List.mem_filter.2 ⟨hsub x hx, by simpa using hx⟩) ?_
      exact nodup_le _ _ (hn.filter _) fun x hx => by simpa using (List.mem_filter.1 hx).2
    have hready : Region.ready .any ops (markL listed D) = (ms.map (·.i)).filter fun i => !D.contains i := by
      have hq := of_decide_eq_true hq
      rw [markL_same hsame, hq]
      exact List.filter_congr fun i _ => by rw [← hsame i]
    rw [show k + 1 + S0 = (k + S0) + 1 by omega]
    refine ⟨fun h0 => ?_, fun i hi w hw => ?_⟩
    · exfalso
      have : (ms.map (·.i)).length ≤ D.length := nodup_le _ _ hn fun x hx => by
        rw [hready] at h0
        have := List.filter_eq_nil_iff.1 h0 x hx
        simpa using this
      simp at this
      omega
    · rw [hready, List.mem_filter] at hi
      obtain ⟨hi1, hi2⟩ := hi
      obtain ⟨m, hm1, rfl⟩ := List.mem_map.1 hi1
      have hi3 : m.i ∉ D := by simpa using hi2
      obtain ⟨o, ho, hmk⟩ := hm m hm1
      refine wpOp_of_list ho ((hmk _ (frm dn ++ fr) (L ++ owm dn) (fun q v hq => look_none (frm dn) (fun x hx => ?_) hq) fun g => ?_).go a w hr hw)
      · obtain ⟨y, hy, rfl⟩ := List.mem_map.1 hx
        exact hf y.1 (h1 y hy)
      · refine TL_nil ⟨fun a' w' hr' hm' => ⟨Mem W (L ++ owm ((m, g) :: dn)), closed_mem _ _, hUL _, hm'.perm ?_, ?_⟩⟩
        · rw [List.append_assoc]
          exact (List.perm_append_comm).append_left L
        · have := ih ((m, g) :: dn) (fun x hx => by
            rcases List.mem_cons.1 hx with rfl | hx
            · exact hm1
            · exact h1 x hx) (by rw [List.map_cons, hD, List.nodup_cons]; exact ⟨hi3, h2⟩) (by simp; omega) a' hr'
          rw [List.map_cons, hD] at this
          have e : (markL listed D).setIfInBounds m.i true = markL listed (m.i :: D) := by
            have e0 : (markL listed D).setIfInBounds m.i true = markL listed (D ++ [m.i]) := by
              unfold markL; rw [List.foldl_append]; rfl
            rw [e0]
            exact markL_same fun j => by
              apply Bool.eq_iff_iff.2
              simp [or_comm]
          rw [e]
          exact this
/-- a region that draws, with some of it listed -/
structure TX (P : Program) (n : Nat) (W : Base) (ops : Array Oper) (Q : Exit → Act → World → Prop) (L0 : List Own) (listed : Array Bool) (f : Nat) (fr : Fr) (L : List Own) : Prop where
  go : (∀ w, Mem W L w → Mem W L0 w) → (∀ c a d v w, Q (.panic c) (Act.put a d v) w → Q (.panic c) a w) → Region.noSelect ops = true → ∀ a, Rep n a fr → wpAnyV P .any ops Q (Mem W L0) f listed a (Mem W L)
theorem mem_left {L l : List Own} {w : World} (h : Mem W (L ++ l) w) : Mem W L w := by
  have hl : ∀ (i : Nat) (o : Own), L[i]? = some o → (L ++ l)[i]? = some o := fun i o h => by
    rw [List.getElem?_append_left (List.getElem?_eq_some_iff.1 h).1]; exact h
  exact ⟨h.low, ⟨fun i o hi => h.owns.all i o (hl i o hi), fun i j o o' hij hi hj => h.owns.apart i j o o' hij (hl i o hi) (hl j o' hj)⟩⟩
theorem T_ordX {id : Nat} {l : List Oper} (L0 : List Own) (hsub : ∀ w, Mem W L w → Mem W L0 w) (hm : P.follows .mixedOrders = true) (hsel : Region.noSelect l.toArray = true)
    (hQ : ∀ c a d v w, Q (.panic c) (Act.put a d v) w → Q (.panic c) a w)
    (h : TX P n W l.toArray Q L0 (Array.replicate l.toArray.size false) l.toArray.size fr L) : T P n W (.region id l.toArray true) Q fr L := ⟨fun a w hr hmm => by
  refine wp_region_any hm ?_
  exact wpAny_of_V (U := Mem W L0) l.toArray.size (Array.replicate l.toArray.size false) a (Mem W L) w.drew hmm.drew (h.go hsub hQ hsel a hr)⟩
theorem TX_tree {listed : Array Bool} {f : Nat} (t : Ord) (ho : orderO .any ops t listed = true) (hf : f = t.size) (h : TW P n W ops Q L0 t fr L) : TX P n W ops Q L0 listed f fr L :=
  ⟨fun hsub hQ hsel a hr => by subst hf; exact wpAnyV_ord hsel hQ t listed a (Mem W L) (closed_mem W L) hsub ho (h.go a hr)⟩
theorem TX_val {listed : Array Bool} {f d : Nat} {o : Oper} {v : Value} (i : Nat) (hi : ((Region.ready .any ops listed).contains i && Region.free .any ops listed i) = true) (ho : ops[i]? = some o) (hr : RR P n W o fr L0 v) (hg : o.guard = none) (hd : o.dst = some d) (hn : Nat.blt d n = true)
    (h : TX P n W ops Q L0 (listed.setIfInBounds i true) f ((d, v) :: fr) L) : TX P n W ops Q L0 listed (f + 1) fr L := ⟨fun hsub hQ hsel a hrep => by
  rw [Bool.and_eq_true] at hi
  have hc : CalmIn P ops (Mem W L0) o v a := .inl ⟨wanted_none hg, fun w hw => by unfold calmAt; rw [hr.go a w hrep hw]; exact ⟨rfl, Gr.refl _⟩⟩
  exact wpAnyV_first ho (Region.noSelect_spec hsel) (fun c a w => hQ c a o.dst v w) f listed a (Mem W L) (closed_mem W L) hsub (Region.free_spec ho hi.2) (by simpa using hi.1) hc
    (by rw [hd]; exact h.go hsub hQ hsel _ (hrep.put hn v))⟩
def manyOk (ops : Array Oper) (ms : List Mk) (ends : List (List Nat)) (listed : Array Bool) (fr : Fr) : Bool :=
  decide (ms.map (·.i)).Nodup && decide (ms.map (·.d)).Nodup && manyB ops (ms.map (·.i)) ends listed && ms.all fun m => (look fr m.d).isNone
/-- where some of them being done sets another operation free (ps tells the places of such a set): a walk of its own from there -/
theorem TX_many2 {listed : Array Bool} {f : Nat} (ms : List Mk) (p : Mk → Bool) (S0 : Nat) (hf : f = ms.length + S0) (hB : manyOk ops ms [ms.map (·.i), (ms.filter p).map (·.i)] listed fr = true) (hm : ∀ m ∈ ms, Makes P n W ops fr m)
    (h : ∀ g : Nat → Nat, TX P n W ops Q L0 (markL listed (ms.map (·.i))) S0 (ms.map (fun m => (m.d, m.v (g m.i))) ++ fr) (L ++ ms.map fun m => m.own (g m.i)))
    (h' : ∀ g : Nat → Nat, TX P n W ops Q L0 (markL listed ((ms.filter p).map (·.i))) (ms.length - (ms.filter p).length + S0) ((ms.filter p).map (fun m => (m.d, m.v (g m.i))) ++ fr) (L ++ (ms.filter p).map fun m => m.own (g m.i))) : TX P n W ops Q L0 listed f fr L := ⟨fun hsub hQ hsel a hr => by
  subst hf
  simp only [manyOk, Bool.and_eq_true, decide_eq_true_eq] at hB
  obtain ⟨⟨⟨b1, b2⟩, b3⟩, b4⟩ := hB
  have := many_go (Q := Q) (L := L) ms [ms, ms.filter p] listed (Mem W L0) S0 (fun l w hw => hsub w (mem_left hw)) b1 b2 b3 hm (fun m hm => by simpa using List.all_eq_true.1 b4 m hm)
    (fun E hE => by
      have hE : E = ms ∨ E = ms.filter p := by
        simp only [List.mem_cons, List.not_mem_nil, or_false] at hE
        rcases hE with h | h | h
        · exact .inl h
        · exact .inl h
        · exact .inr h
      rcases hE with rfl | rfl
      · exact ⟨fun _ h => h, b1, b2, fun k g a hk hr => by
          obtain rfl : k = 0 := by omega
          rw [Nat.zero_add]
          exact (h g).go (fun w hw => hsub w (mem_left hw)) hQ hsel a hr⟩
      · exact ⟨fun _ h => (List.mem_filter.1 h).1, b1.sublist (List.filter_sublist.map _), b2.sublist (List.filter_sublist.map _), fun k g a hk hr => by
          obtain rfl : k = ms.length - (ms.filter p).length := by omega
          exact (h' g).go (fun w hw => hsub w (mem_left hw)) hQ hsel a hr⟩) ms.length [] (fun x hx => by cases hx) (by simp) (by simp) a hr
  simpa [markL, owm] using this⟩
theorem ev_mono {fr fr' : Fr} (h : ∀ q v, look fr q = some v → look fr' q = some v) {x : Operand} {v : Value} (hx : ev fr x = some v) : ev fr' x = some v := by
  cases x with
  | tmp t => exact h _ _ hx
  | _ => exact hx
theorem makes_slice {i d : Nat} {t e ty : TypeId} {pos : String} {after : Array Edge} {x y : Operand} {c bytes m cap : Nat} {k k' : IntKind} {zs : Array Value} [ElC P t e c bytes] [ZeroC P e zs] (ho : ops[i]? = some ⟨some d, .makeSlice t x y, ty, pos, after, none⟩) (hx : ev fr x = some (.int k (m : Int))) (hy : ev fr y = some (.int k' (cap : Int))) (hmc : m ≤ cap) (hb : bytes * cap ≤ 281474976710656) (h63 : cap ≤ 9223372036854775807) (hn : Nat.blt d n = true) :
    Makes P n W ops fr ⟨i, d, fun g => .slice (some ⟨g, 0, none⟩) m cap, fun g => blkO g (madeCells zs (cap * c)) e⟩ :=
  ⟨_, ho, fun _ _ _ hl h => TL_makeB (ev_mono hl hx) (ev_mono hl hy) hmc hb h63 hn h⟩
theorem makes_new {i d : Nat} {t ty : TypeId} {pos : String} {after : Array Edge} {cs : Array Value} [ZeroC P t cs] (ho : ops[i]? = some ⟨some d, .alloc t, ty, pos, after, none⟩) (hn : Nat.blt d n = true) :
    Makes P n W ops fr ⟨i, d, fun g => .pointer (some ⟨g, 0, none⟩), fun g => blkO g cs t⟩ :=
  ⟨_, ho, fun _ _ _ _ h => TL_new hn h⟩
end
end Go.Proofs.Ytnicebdkejkieaa.eng
