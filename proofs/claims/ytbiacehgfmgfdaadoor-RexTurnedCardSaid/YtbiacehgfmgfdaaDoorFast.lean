/- The order check of a long region, of which all operations but the last are calm: linear, where Mix's 'lexM' is not. -/
import Derived.Test.YtbiacehgfmgfdaaDoorMgA
namespace Go.Proofs.YtbiacehgfmgfdaaDoor.mix
variable {md : Region.Mode} {ops : Array Oper} {base : Nat} {z : Option Nat}
def deps (md : Region.Mode) (o : Oper) : List Nat := (o.after.toList.filter fun e => Region.binds md e).map (·.on)
theorem mem_deps {o : Oper} {i : Nat} : i ∈ deps md o ↔ ∃ e ∈ o.after, Region.binds md e = true ∧ e.on = i := by
  simp [deps, and_assoc]
def rowOK (md : Region.Mode) (ops : Array Oper) (base k : Nat) (o : Oper) : Bool :=
  (deps md o).all (fun i => decide (i < k)) && (o.looksAt ops).all (fun d => decide (d < base) || (deps md o).any (fun i => base + i == d))
def frontOK (md : Region.Mode) (ops : Array Oper) (base : Nat) (z : Option Nat) : Nat → List Oper → Bool
  | _, [] => false
  | k, [o] => rowOK md ops base k o && (o.dst == z)
  | k, o :: o1 :: rest => rowOK md ops base k o && (o.dst == some (base + k)) && ((o1 :: rest).any fun o' => (deps md o').contains k) && ((o.looksAt ops).all fun d => !(z == some d)) && frontOK md ops base z (k + 1) (o1 :: rest)
theorem front_spec : ∀ (l : List Oper) (k : Nat), frontOK md ops base z k l = true → ∀ i o, l[i]? = some o → rowOK md ops base (k + i) o = true ∧
    (i + 1 < l.length → o.dst = some (base + (k + i)) ∧ (∀ d ∈ o.looksAt ops, z ≠ some d) ∧ ∃ j oj, i < j ∧ l[j]? = some oj ∧ k + i ∈ deps md oj) ∧ (i + 1 = l.length → o.dst = z)
  | [], _, h, _, _, _ => by simp [frontOK] at h
  | [o0], k, h, i, o, hi => by
    simp only [frontOK, Bool.and_eq_true, beq_iff_eq] at h
    have : i = 0 := by rcases i with _ | i; rfl; simp at hi
    subst this
    obtain rfl : o0 = o := by simpa using hi
    exact ⟨by simpa using h.1, fun hl => by simp at hl, fun _ => h.2⟩
  | o0 :: o1 :: rest, k, h, i, o, hi => by
    simp only [frontOK, Bool.and_eq_true, beq_iff_eq] at h
    obtain ⟨⟨⟨⟨h1, h2⟩, h3⟩, h4⟩, h5⟩ := h
    rcases i with _ | i
    · obtain rfl : o0 = o := by simpa using hi
      refine ⟨by simpa using h1, fun _ => ⟨by simpa using h2, fun d hd e => ?_, ?_⟩, fun hl => by simp at hl⟩
      · have := List.all_eq_true.1 h4 d hd
        simp [e] at this
      · obtain ⟨o', ho', hc⟩ := List.any_eq_true.1 h3
        obtain ⟨j, hj⟩ := List.getElem?_of_mem ho'
        exact ⟨j + 1, o', by omega, by simpa using hj, by simpa using hc⟩
    · obtain ⟨g1, g2, g3⟩ := front_spec (o1 :: rest) (k + 1) h5 i o (by simpa using hi)
      rw [show k + 1 + i = k + (i + 1) by omega] at g1 g2
      refine ⟨g1, fun hl => ?_, fun hl => g3 (by simpa using hl)⟩
      obtain ⟨a1, a2, j, oj, b1, b2, b3⟩ := g2 (by simpa using hl)
      exact ⟨a1, a2, j + 1, oj, by omega, by simpa using b2, b3⟩
/-- the first k of m listed -/
def firsts (m k : Nat) : Array Bool := ((List.range m).map fun i => decide (i < k)).toArray
theorem firsts_get (m k j : Nat) (d : Bool) : (firsts m k).getD j d = if j < m then decide (j < k) else d := by
  unfold firsts
  by_cases h : j < m
  · simp [h]
  · simp [h]
theorem firsts_zero (m : Nat) : Array.replicate m false = firsts m 0 := by
  apply Array.ext
  · simp [firsts]
  · intro i h1 h2; simp [firsts]
theorem firsts_set (m k : Nat) : (firsts m k).setIfInBounds k true = firsts m (k + 1) := by
  apply Array.ext
  · simp [firsts]
  · intro i h1 h2
    rw [Array.getElem_setIfInBounds]
    · simp only [firsts, List.getElem_toArray, List.getElem_map, List.getElem_range]
      split
      · rename_i e; subst e; simp
      · rename_i e; simp only [decide_eq_decide]; omega
    · simpa using h1
section
variable {l : List Oper} {n : Nat}
theorem fast_ready (hl : l.length = n + 1) (hf : frontOK md l.toArray base z 0 l = true) (k : Nat) (hk : k ≤ n) : k ∈ Region.ready md l.toArray (firsts (n + 1) k) := by
  have hkl : k < l.length := by omega
  refine mem_ready.2 ⟨by rw [firsts_get]; simp; omega, l[k], by simp [hkl], fun e he hb => ?_⟩
  have := (front_spec l 0 hf k l[k] (by simp [hkl])).1
  simp only [rowOK, Bool.and_eq_true, List.all_eq_true, decide_eq_true_eq] at this
  have h1 := this.1 e.on (mem_deps.2 ⟨e, he, hb, rfl⟩)
  rw [firsts_get]; simp; omega
theorem fast_free (hl : l.length = n + 1) (hf : frontOK md l.toArray base z 0 l = true) (hz : ∀ d, z = some d → d < base) (k : Nat) (hk : k < n) : Region.free md l.toArray (firsts (n + 1) k) k = true := by
  have hkl : k < l.length := by omega
  have hk' : l.toArray[k]? = some l[k] := by simp [hkl]
  unfold Region.free
  rw [hk']
  simp only [List.all_eq_true, List.mem_range, Bool.or_eq_true, beq_iff_eq]
  intro j hj
  have hj' : j < l.length := by simpa using hj
  have hjg : l.toArray[j]? = some l[j] := by simp [hj']
  rcases Nat.lt_trichotomy j k with h | h | h
  · left; right; rw [firsts_get, if_pos (by omega)]; simpa using h
  · left; left; exact h
  · right
    rw [hjg]
    simp only [Bool.or_eq_true]
    by_cases hd : k ∈ deps md l[j]
    · left
      obtain ⟨e, he, hb, ho⟩ := mem_deps.1 hd
      exact Array.any_eq_true'.2 ⟨e, he, by simp [hb, ho]⟩
    · right
      obtain ⟨k1, k2, _⟩ := front_spec l 0 hf k l[k] (by simp [hkl])
      obtain ⟨j1, j2, j3⟩ := front_spec l 0 hf j l[j] (by simp [hj'])
      obtain ⟨k3, k4, _⟩ := k2 (by omega)
      simp only [rowOK, Bool.and_eq_true, List.all_eq_true, decide_eq_true_eq, Bool.or_eq_true, List.any_eq_true, beq_iff_eq, Nat.zero_add] at k1 j1 k3
      have hx : l[k].dst.isSome → base + k ∉ l[j].looksAt l.toArray := fun _ hm => by
        rcases j1.2 _ hm with h1 | ⟨i, hi, hi'⟩
        · have h1 : @LT.lt Nat _ (base + k) base := h1
          omega
        · have hi' : @Eq Nat (base + i) (base + k) := hi'
          exact hd (by have : i = k := by omega
                       rwa [this] at hi)
      have hdj : ∀ d, l[j].dst = some d → d ∉ l[k].looksAt l.toArray ∧ d ≠ base + k := fun d hdd => by
        by_cases hjn : j < n
        · have := (j2 (by omega)).1
          rw [this] at hdd
          have he : @Eq Nat (base + (0 + j)) d := Option.some.inj hdd
          refine ⟨fun hm => ?_, fun e => ?_⟩
          · rcases k1.2 _ hm with h1 | ⟨i, hi, hi'⟩
            · have h1 : @LT.lt Nat _ d base := h1
              omega
            · have hi' : @Eq Nat (base + i) d := hi'
              have := k1.1 i hi; omega
          · have e : @Eq Nat d (base + k) := e
            omega
        · have := j3 (by omega)
          rw [this] at hdd
          have h1 : @LT.lt Nat _ d base := hz d hdd
          exact ⟨fun hm => k4 d hm hdd, fun e => by
            have e : @Eq Nat d (base + k) := e
            omega⟩
      unfold Oper.apart
      rw [k3]
      simp only [Bool.and_eq_true, Bool.not_eq_true', bne_iff_ne, ne_eq]
      refine ⟨⟨by simpa using hx (by rw [k3]; rfl), fun e => (hdj _ e).2 rfl⟩, ?_⟩
      cases hdd : l[j].dst with
      | none => rfl
      | some d => simpa using (hdj d hdd).1
theorem fast_ready_only (hl : l.length = n + 1) (hf : frontOK md l.toArray base z 0 l = true) : Region.ready md l.toArray (firsts (n + 1) n) = [n] := by
  have h1 := fast_ready hl hf n (Nat.le_refl _)
  have h2 : ∀ j ∈ Region.ready md l.toArray (firsts (n + 1) n), j = n := fun j hj => by
    obtain ⟨a, o, ho, _⟩ := mem_ready.1 hj
    rw [firsts_get] at a
    have hj' : j < n + 1 := by
      have : j < l.toArray.size := (Array.getElem?_eq_some_iff.1 ho).1
      simpa [hl] using this
    rw [if_pos hj'] at a
    simp at a; omega
  have h3 : (Region.ready md l.toArray (firsts (n + 1) n)).Nodup := List.Pairwise.filter _ List.nodup_range
  generalize Region.ready md l.toArray (firsts (n + 1) n) = r at *
  match r, h1, h2, h3 with
  | [x], _, h2, _ => rw [h2 x (by simp)]
  | x :: y :: t, _, h2, h3 =>
    have := h2 x (by simp); have := h2 y (by simp)
    subst_vars
    simp at h3
theorem fast_ready_none (hl : l.length = n + 1) : Region.ready md l.toArray (firsts (n + 1) (n + 1)) = [] := by
  apply List.eq_nil_iff_forall_not_mem.2
  intro j hj
  obtain ⟨a, o, ho, _⟩ := mem_ready.1 hj
  have hj' : j < n + 1 := by
    have : j < l.toArray.size := (Array.getElem?_eq_some_iff.1 ho).1
    simpa [hl] using this
  rw [firsts_get, if_pos hj'] at a
  simp at a; omega
theorem fast_order (hl : l.length = n + 1) (hf : frontOK md l.toArray base z 0 l = true) (hz : ∀ d, z = some d → d < base) :
    ∀ (m k : Nat), k + m = n → orderM md l.toArray 1 (List.replicate m true) k (firsts (n + 1) k) = true
  | 0, k, h => by
    obtain rfl : k = n := by omega
    simp only [List.replicate, orderM, Region.seqB, fast_ready_only hl hf, firsts_set, fast_ready_none hl]
    simp
  | m + 1, k, h => by
    simp only [List.replicate_succ, orderM, Bool.and_eq_true, firsts_set]
    exact ⟨⟨by simpa using fast_ready hl hf k (by omega), fast_free hl hf hz k (by omega)⟩, fast_order hl hf hz m (k + 1) (by omega)⟩
theorem lex_fast (hl : l.length = n + 1) (hsel : Region.noSelect l.toArray = true) (hf : frontOK md l.toArray base z 0 l = true) (hz : ∀ d, z = some d → d < base) :
    lexM md l.toArray (List.replicate n true) = true := by
  have hs : l.toArray.size = n + 1 := by simpa using hl
  simp only [lexM, Bool.and_eq_true, decide_eq_true_eq, List.length_replicate]
  refine ⟨⟨⟨⟨hsel, by omega⟩, ?_⟩, ?_⟩, ?_⟩
  · unfold Region.sinkB
    simp only [List.all_eq_true, List.mem_range, List.any_eq_true, Bool.and_eq_true, decide_eq_true_eq]
    intro i hi
    have hil : i < l.length := by omega
    obtain ⟨_, _, j, oj, b1, b2, b3⟩ := (front_spec l 0 hf i l[i] (by simp [hil])).2.1 (by omega)
    have hjl : j < l.length := (List.getElem?_eq_some_iff.1 b2).1
    refine ⟨j, by omega, b1, ?_⟩
    unfold Region.waitsFor
    rw [show l.toArray[j]? = some oj by simpa using b2]
    obtain ⟨e, he, hb, ho⟩ := mem_deps.1 b3
    exact Array.any_eq_true'.2 ⟨e, he, by simp [hb, ho]⟩
  · unfold Region.chainB
    simp only [List.all_eq_true, List.mem_range, Bool.or_eq_true, decide_eq_true_eq]
    intro t ht; left; omega
  · rw [hs, show n + 1 - n = 1 by omega, firsts_zero]
    exact fast_order hl hf hz n 0 (by omega)
end
/-- 'mix' for a long region of which all but the last operation are calm -/
theorem mix_long {P : Program} {Q : Exit → Act → World → Prop} {id : Nat} {a : Act} {w : World} {l : List Oper} (n base : Nat) (z : Option Nat) (hl : l.length = n + 1) (hm : P.follows .mixedOrders = true)
    (hsel : Region.noSelect l.toArray = true) (hf : frontOK .any l.toArray base z 0 l = true) (hz : ∀ d, z = some d → d < base)
    (hQ : ∀ c a d v w, Q (.panic c) (a.put d v) w → Q (.panic c) a w) (S : World → Prop) (hcl : Closed S) (hS : S w.drew)
    (h : wpM P l.toArray Q (fun a' w' => wpList P l.toArray Q (l.drop n) a' w') (List.replicate n true) (l.take n) a S) : (Code.region id l.toArray true).wp P Q a w :=
  mix n (List.replicate n true) (by simp) hm (lex_fast hl hsel hf hz) hQ S hcl hS h
end Go.Proofs.YtbiacehgfmgfdaaDoor.mix
