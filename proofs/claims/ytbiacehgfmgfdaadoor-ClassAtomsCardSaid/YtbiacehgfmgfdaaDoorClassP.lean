/- What class.Parts makes: no program in sight. -/
import Derived.Test.YtbiacehgfmgfdaaDoorClassR
namespace Go.Proofs.YtbiacehgfmgfdaaDoor.classL
def one (x : C4) : List C4 := if x = C4.zero then [] else [x]
def splitOf (c p : C4) : List C4 := one (p.meet c) ++ one (p.meet c.not)
def splitL (all : List C4) (c : C4) : List C4 := all.flatMap (splitOf c)
/-- the parts behind i classes -/
def allAt (l : List C4) : Nat → List C4
  | 0 => [C4.zero.not]
  | i + 1 => if l.getD i C4.zero ∈ l.take i then allAt l i else splitL (allAt l i) (l.getD i C4.zero)
def sink (X : List C4) : Nat → List C4
  | 0 => X
  | k + 1 => if leastF (X.getD (k + 1) C4.zero) < leastF (X.getD k C4.zero) then sink ((X.set (k + 1) (X.getD k C4.zero)).set k (X.getD (k + 1) C4.zero)) k else X
def sortFrom : Nat → Nat → List C4 → List C4
  | 0, _, X => X
  | f + 1, i, X => sortFrom f (i + 1) (sink X i)
def partsF (l : List C4) : List C4 := sortFrom ((allAt l l.length).length - 1) 1 (allAt l l.length)
theorem sink_len : ∀ (k : Nat) (X : List C4), (sink X k).length = X.length
  | 0, _ => rfl
  | k + 1, X => by
    simp only [sink]
    split
    · rw [sink_len k]; simp
    · rfl
/-- what holds of parts -/
structure Parts (S : List C4) (all : List C4) : Prop where
  some : ∀ x ∈ all, x ≠ C4.zero
  apart : all.Pairwise fun x y => x.meet y = C4.zero
  sum : (all.map cnt).sum = 256
  whole : ∀ n, n < 256 → ∃ x ∈ all, x.mem n = true
  each : ∀ c ∈ S, ∀ x ∈ all, x.meet c = x ∨ x.meet c = C4.zero
  told : all.Pairwise fun x y => ∃ c ∈ S, decide (x.meet c = x) ≠ decide (y.meet c = y)
theorem one_le (x : C4) : (one x).length ≤ 1 := by unfold one; split <;> simp
theorem splitL_len (c : C4) : ∀ A : List C4, (splitL A c).length ≤ 2 * A.length
  | [] => Nat.le_refl _
  | p :: A => by
    have ih := splitL_len c A
    have h1 := one_le (p.meet c)
    have h2 := one_le (p.meet c.not)
    have e : splitL (p :: A) c = splitOf c p ++ splitL A c := by simp [splitL]
    rw [e, List.length_append, splitOf, List.length_append, List.length_cons]
    omega
theorem zero_iff {x : C4} : x = C4.zero ↔ ∀ n, n < 256 → x.mem n = false :=
  ⟨fun h n _ => by rw [h, zero_mem], fun h => ext_mem fun n hn => by rw [h n hn, zero_mem]⟩
theorem cnt_zero {x : C4} (h : cnt x = 0) : x = C4.zero := by
  have : bytesL x = [] := List.eq_nil_of_length_eq_zero h
  refine zero_iff.2 fun n hn => ?_
  cases e : x.mem n with
  | false => rfl
  | true => exact absurd (mem_bytes.2 ⟨hn, e⟩) (by rw [this]; simp)
theorem cnt_of_zero : cnt C4.zero = 0 := by
  unfold cnt
  have : bytesL C4.zero = [] := List.filter_eq_nil_iff.2 fun n _ => by rw [zero_mem]; decide
  rw [this]; rfl
theorem cnt_split (p c : C4) : cnt (p.meet c) + cnt (p.meet c.not) = cnt p := by
  have h := cnt_or_and (p.meet c) (p.meet c.not)
  have e1 : (p.meet c).join (p.meet c.not) = p := ext_mem fun n _ => by
    rw [join_mem, meet_mem, meet_mem, not_mem]
    cases p.mem n <;> cases c.mem n <;> rfl
  have e2 : (p.meet c).meet (p.meet c.not) = C4.zero := ext_mem fun n _ => by
    rw [meet_mem, meet_mem, meet_mem, not_mem, zero_mem]
    cases p.mem n <;> cases c.mem n <;> rfl
  rw [e1, e2, cnt_of_zero] at h
  omega
theorem one_sum (x : C4) : ((one x).map cnt).sum = cnt x := by
  unfold one
  split
  · rename_i h; subst h; simp [cnt_of_zero]
  · simp
theorem sum_split (c : C4) : ∀ all : List C4, ((splitL all c).map cnt).sum = (all.map cnt).sum
  | [] => rfl
  | p :: all => by
    have ih := sum_split c all
    have h := cnt_split p c
    have e : splitL (p :: all) c = splitOf c p ++ splitL all c := by simp [splitL]
    rw [e, List.map_append, List.sum_append, ih, List.map_cons, List.sum_cons]
    unfold splitOf
    rw [List.map_append, List.sum_append, one_sum, one_sum, h]
theorem sum_len : ∀ all : List C4, (∀ x ∈ all, x ≠ C4.zero) → all.length ≤ (all.map cnt).sum
  | [], _ => Nat.le_refl _
  | x :: all, h => by
    have ih := sum_len all fun y hy => h y (by simp [hy])
    have : cnt x ≠ 0 := fun e => h x (by simp) (cnt_zero e)
    simp only [List.length_cons, List.map_cons, List.sum_cons]
    omega
theorem Parts.len {S all : List C4} (h : Parts S all) : all.length ≤ 256 := by
  have := sum_len all h.some
  rw [h.sum] at this
  exact this
theorem full_mem (n : Nat) : C4.zero.not.mem n = true := by rw [not_mem, zero_mem]; rfl
theorem parts_start : Parts [] [C4.zero.not] where
  some x hx := by
    rw [List.mem_singleton] at hx
    subst hx
    intro e
    have := full_mem 0
    rw [e, zero_mem] at this
    cases this
  apart := by simp
  sum := by
    have h := cnt_not C4.zero
    rw [cnt_of_zero] at h
    simp [h]
  whole n _ := ⟨_, List.mem_singleton.2 rfl, full_mem n⟩
  each c hc := by simp at hc
  told := by simp
theorem mem_one {x y : C4} : y ∈ one x ↔ y = x ∧ x ≠ C4.zero := by
  unfold one
  split
  · rename_i h; simp [h]
  · rename_i h; simp [h]
theorem mem_split {c p y : C4} : y ∈ splitOf c p ↔ y ≠ C4.zero ∧ (y = p.meet c ∨ y = p.meet c.not) := by
  unfold splitOf
  rw [List.mem_append, mem_one, mem_one]
  constructor
  · rintro (⟨rfl, h⟩ | ⟨rfl, h⟩)
    · exact ⟨h, .inl rfl⟩
    · exact ⟨h, .inr rfl⟩
  · rintro ⟨h, rfl | rfl⟩
    · exact .inl ⟨rfl, h⟩
    · exact .inr ⟨rfl, h⟩
theorem sub_of {c p y : C4} (h : y ∈ splitOf c p) (n : Nat) (hm : y.mem n = true) : p.mem n = true := by
  obtain ⟨_, rfl | rfl⟩ := mem_split.1 h <;> (rw [meet_mem] at hm; simp at hm; exact hm.1)
theorem meet_zero {x y : C4} : x.meet y = C4.zero ↔ ∀ n, n < 256 → x.mem n = true → y.mem n = false := by
  rw [zero_iff]
  constructor
  · intro h n hn hx
    have := h n hn
    rw [meet_mem, hx] at this
    simpa using this
  · intro h n hn
    rw [meet_mem]
    cases e : x.mem n with
    | false => rfl
    | true => rw [h n hn e]; rfl
theorem meet_self {x y : C4} : x.meet y = x ↔ ∀ n, n < 256 → x.mem n = true → y.mem n = true := by
  constructor
  · intro h n hn hx
    have e : (x.meet y).mem n = true := by rw [h]; exact hx
    rw [meet_mem, hx] at e
    simpa using e
  · intro h
    refine ext_mem fun n hn => ?_
    rw [meet_mem]
    cases e : x.mem n with
    | false => rfl
    | true => rw [h n hn e]; rfl
theorem some_mem {x : C4} (h : x ≠ C4.zero) : ∃ n, n < 256 ∧ x.mem n = true := by
  apply Classical.byContradiction
  intro hn
  refine h (zero_iff.2 fun n hlt => ?_)
  cases e : x.mem n with
  | false => rfl
  | true => exact absurd ⟨n, hlt, e⟩ hn
/-- a piece of p lies as p does to whatever p lies within or outside of -/
theorem piece_tell {c p y d : C4} (hy : y ∈ splitOf c p) (hd : p.meet d = p ∨ p.meet d = C4.zero) : (y.meet d = y ↔ p.meet d = p) ∧ (y.meet d = y ∨ y.meet d = C4.zero) := by
  obtain ⟨n, hn, hm⟩ := some_mem (mem_split.1 hy).1
  have hpn := sub_of hy n hm
  rcases hd with h | h
  · have h' := meet_self.1 h
    have : y.meet d = y := meet_self.2 fun q hq e => h' q hq (sub_of hy q e)
    exact ⟨⟨fun _ => h, fun _ => this⟩, .inl this⟩
  · have h' := meet_zero.1 h
    have hz : y.meet d = C4.zero := meet_zero.2 fun q hq e => h' q hq (sub_of hy q e)
    refine ⟨⟨fun e => ?_, fun e => ?_⟩, .inr hz⟩
    · have := meet_self.1 e n hn hm
      rw [h' n hn hpn] at this; cases this
    · have := meet_self.1 e n hn hpn
      rw [h' n hn hpn] at this; cases this
theorem pair_flat {α : Type} {R : α → α → Prop} {f : α → List α} : ∀ {l : List α}, (∀ a ∈ l, (f a).Pairwise R) → l.Pairwise (fun a b => ∀ x ∈ f a, ∀ y ∈ f b, R x y) → (l.flatMap f).Pairwise R
  | [], _, _ => List.Pairwise.nil
  | a :: l, h1, h2 => by
    rw [List.flatMap_cons, List.pairwise_append]
    rw [List.pairwise_cons] at h2
    refine ⟨h1 a (by simp), pair_flat (fun b hb => h1 b (by simp [hb])) h2.2, fun x hx y hy => ?_⟩
    obtain ⟨b, hb, hyb⟩ := List.mem_flatMap.1 hy
    exact h2.1 b hb x hx y hyb
theorem split_cases (c p : C4) : splitOf c p = [] ∨ splitOf c p = [p.meet c] ∨ splitOf c p = [p.meet c.not] ∨ (splitOf c p = [p.meet c, p.meet c.not] ∧ p.meet c ≠ C4.zero ∧ p.meet c.not ≠ C4.zero) := by
  unfold splitOf one
  by_cases h1 : p.meet c = C4.zero <;> by_cases h2 : p.meet c.not = C4.zero <;> simp [h1, h2]
theorem in_self (p c : C4) : (p.meet c).meet c = p.meet c := ext_mem fun n _ => by
  rw [meet_mem, meet_mem]; cases p.mem n <;> cases c.mem n <;> rfl
theorem out_self (p c : C4) : (p.meet c.not).meet c = C4.zero := ext_mem fun n _ => by
  rw [meet_mem, meet_mem, not_mem, zero_mem]; cases p.mem n <;> cases c.mem n <;> rfl
theorem in_out (p c : C4) : (p.meet c).meet (p.meet c.not) = C4.zero := ext_mem fun n _ => by
  rw [meet_mem, meet_mem, meet_mem, not_mem, zero_mem]; cases p.mem n <;> cases c.mem n <;> rfl
theorem parts_step {S all : List C4} (h : Parts S all) (c : C4) : Parts (c :: S) (splitL all c) where
  some x hx := by
    obtain ⟨p, _, hp⟩ := List.mem_flatMap.1 hx
    exact (mem_split.1 hp).1
  apart := by
    refine pair_flat (fun p _ => ?_) (h.apart.imp fun {a b} hab x hx y hy => ?_)
    · rcases split_cases c p with e | e | e | ⟨e, _, _⟩ <;> rw [e]
      · exact List.Pairwise.nil
      · simp
      · simp
      · simp [in_out]
    · exact meet_zero.2 fun n hn hm => by
        cases e : y.mem n with
        | false => rfl
        | true => have := meet_zero.1 hab n hn (sub_of hx n hm); rw [sub_of hy n e] at this; cases this
  sum := by rw [sum_split]; exact h.sum
  whole n hn := by
    obtain ⟨p, hp, hm⟩ := h.whole n hn
    cases e : c.mem n with
    | true =>
      have hpc : (p.meet c).mem n = true := by rw [meet_mem, hm, e]; rfl
      exact ⟨p.meet c, List.mem_flatMap.2 ⟨p, hp, mem_split.2 ⟨fun z => (by rw [z, zero_mem] at hpc; cases hpc), .inl rfl⟩⟩, hpc⟩
    | false =>
      have hpc : (p.meet c.not).mem n = true := by rw [meet_mem, not_mem, hm, e]; rfl
      exact ⟨p.meet c.not, List.mem_flatMap.2 ⟨p, hp, mem_split.2 ⟨fun z => (by rw [z, zero_mem] at hpc; cases hpc), .inr rfl⟩⟩, hpc⟩
  each d hd x hx := by
    obtain ⟨p, hp, hx⟩ := List.mem_flatMap.1 hx
    rcases List.mem_cons.1 hd with rfl | hd
    · obtain ⟨_, rfl | rfl⟩ := mem_split.1 hx
      · exact .inl (in_self p d)
      · exact .inr (out_self p d)
    · exact (piece_tell hx (h.each d hd p hp)).2
  told := by
    have hp : all.Pairwise fun a b => a ∈ all ∧ b ∈ all ∧ ∃ c ∈ S, decide (a.meet c = a) ≠ decide (b.meet c = b) := h.told.imp_of_mem fun {a b} ha hb hab => ⟨ha, hb, hab⟩
    refine pair_flat (fun p _ => ?_) (hp.imp fun {a b} hab x hx y hy => ?_)
    · rcases split_cases c p with e | e | e | ⟨e, e1, e2⟩ <;> rw [e]
      · exact List.Pairwise.nil
      · simp
      · simp
      · refine List.pairwise_cons.2 ⟨fun y hy => ?_, by simp⟩
        rw [List.mem_singleton] at hy
        subst hy
        refine ⟨c, by simp, ?_⟩
        rw [in_self, out_self, decide_eq_true rfl, decide_eq_false (fun e => e2 e.symm)]
        decide
    · obtain ⟨ha, hb, d, hd, hne⟩ := hab
      refine ⟨d, by simp [hd], ?_⟩
      have t1 := (piece_tell hx (h.each d hd a ha)).1
      have t2 := (piece_tell hy (h.each d hd b hb)).1
      rw [decide_eq_decide.2 t1, decide_eq_decide.2 t2]
      exact hne
theorem Parts.more {S S' all : List C4} (h : Parts S all) (h1 : ∀ c, c ∈ S' → c ∈ S) (h2 : ∀ c, c ∈ S → c ∈ S') : Parts S' all :=
  ⟨h.some, h.apart, h.sum, h.whole, fun c hc => h.each c (h1 c hc), h.told.imp fun ⟨c, hc, h⟩ => ⟨c, h2 c hc, h⟩⟩
theorem Parts.perm {S all all' : List C4} (h : Parts S all) (hp : all.Perm all') : Parts S all' where
  some x hx := h.some x (hp.mem_iff.2 hx)
  apart := (hp.pairwise_iff fun {a b} e => by rw [meet_zero] at e ⊢; intro n hn hb; cases q : a.mem n with | false => rfl | true => have := e n hn q; rw [hb] at this; cases this).1 h.apart
  sum := by rw [← h.sum]; exact (hp.map cnt).sum_nat.symm
  whole n hn := let ⟨x, hx, e⟩ := h.whole n hn; ⟨x, hp.mem_iff.1 hx, e⟩
  each c hc x hx := h.each c hc x (hp.mem_iff.2 hx)
  told := (hp.pairwise_iff fun {a b} ⟨c, hc, e⟩ => ⟨c, hc, fun q => e q.symm⟩).1 h.told
theorem parts_at (l : List C4) : ∀ i, i ≤ l.length → Parts (l.take i) (allAt l i)
  | 0, _ => parts_start
  | i + 1, h => by
    have ih := parts_at l i (by omega)
    have hg : l.getD i C4.zero = l[i] := by rw [List.getD_eq_getElem?_getD, List.getElem?_eq_getElem (by omega)]; rfl
    have ht : l.take (i + 1) = l.take i ++ [l[i]] := by rw [List.take_add_one, List.getElem?_eq_getElem (by omega)]; rfl
    have hm : ∀ c, c ∈ l.take i ++ [l[i]] ↔ c ∈ l.take i ∨ c = l[i] := fun c => by rw [List.mem_append, List.mem_singleton]
    simp only [allAt, hg, ht]
    split
    · rename_i hin
      exact ih.more (fun c hc => by rcases (hm c).1 hc with hc | rfl; exact hc; exact hin) (fun c hc => (hm c).2 (.inl hc))
    · exact (parts_step ih l[i]).more (fun c hc => List.mem_cons.2 ((hm c).1 hc).symm) (fun c hc => (hm c).2 (List.mem_cons.1 hc).symm)
/-! insertion, seen from behind -/
def insR : List C4 → C4 → List C4
  | [], x => [x]
  | a :: A, x => if leastF x < leastF a then a :: insR A x else x :: a :: A
theorem getD_mid (A rest : List C4) (x : C4) : (A ++ x :: rest).getD A.length C4.zero = x := by
  rw [List.getD_eq_getElem?_getD, List.getElem?_append_right (Nat.le_refl _), Nat.sub_self]; rfl
theorem sink_ins : ∀ (A rest : List C4) (x : C4), sink (A.reverse ++ x :: rest) A.length = (insR A x).reverse ++ rest
  | [], rest, x => rfl
  | a :: A, rest, x => by
    have hlen : (a :: A).reverse.length = A.length + 1 := by simp
    have g1 : ((a :: A).reverse ++ x :: rest).getD (A.length + 1) C4.zero = x := by rw [← hlen]; exact getD_mid _ _ _
    have e : (a :: A).reverse ++ x :: rest = A.reverse ++ a :: (x :: rest) := by simp
    have g2 : ((a :: A).reverse ++ x :: rest).getD A.length C4.zero = a := by
      rw [e]
      have := getD_mid A.reverse (x :: rest) a
      rwa [List.length_reverse] at this
    have s1 : (((a :: A).reverse ++ x :: rest).set (A.length + 1) a).set A.length x = A.reverse ++ x :: (a :: rest) := by
      rw [e, List.set_append_right _ _ (by simp), List.set_append_right _ _ (by simp)]
      simp
    simp only [List.length_cons, sink, g1, g2, s1, insR]
    split
    · rw [sink_ins A (a :: rest) x]; simp
    · simp
theorem ins_len : ∀ (A : List C4) (x : C4), (insR A x).length = A.length + 1
  | [], _ => rfl
  | a :: A, x => by
    simp only [insR]; split
    · simp [ins_len A x]
    · rfl
theorem sort_ins : ∀ (rest A : List C4), sortFrom rest.length A.length (A.reverse ++ rest) = (rest.foldl insR A).reverse
  | [], A => by simp [sortFrom]
  | x :: rest, A => by
    simp only [List.length_cons, sortFrom, List.foldl_cons]
    rw [sink_ins, ← sort_ins rest (insR A x), ins_len]
theorem ins_perm : ∀ (A : List C4) (x : C4), (insR A x).Perm (x :: A)
  | [], _ => List.Perm.refl _
  | a :: A, x => by
    simp only [insR]; split
    · exact ((ins_perm A x).cons a).trans (List.Perm.swap x a A)
    · exact List.Perm.refl _
theorem fold_perm : ∀ (rest A : List C4), (rest.foldl insR A).Perm (A ++ rest)
  | [], A => by simp
  | x :: rest, A => by
    rw [List.foldl_cons]
    refine (fold_perm rest (insR A x)).trans ?_
    refine ((ins_perm A x).append_right rest).trans ?_
    simp only [List.cons_append]
    exact (List.perm_middle).symm
theorem ins_sorted : ∀ (A : List C4) (x : C4), A.Pairwise (fun a b => leastF b ≤ leastF a) → (insR A x).Pairwise fun a b => leastF b ≤ leastF a
  | [], _, _ => by simp [insR]
  | a :: A, x, h => by
    have h' := List.pairwise_cons.1 h
    simp only [insR]; split
    · rename_i hlt
      refine List.pairwise_cons.2 ⟨fun b hb => ?_, ins_sorted A x h'.2⟩
      rcases List.mem_cons.1 ((ins_perm A x).mem_iff.1 hb) with rfl | hb
      · omega
      · exact h'.1 b hb
    · rename_i hge
      refine List.pairwise_cons.2 ⟨fun b hb => ?_, h⟩
      rcases List.mem_cons.1 hb with rfl | hb
      · omega
      · have := h'.1 b hb; omega
theorem fold_sorted : ∀ (rest A : List C4), A.Pairwise (fun a b => leastF b ≤ leastF a) → (rest.foldl insR A).Pairwise fun a b => leastF b ≤ leastF a
  | [], _, h => h
  | x :: rest, A, h => fold_sorted rest _ (ins_sorted A x h)
theorem sort_eq (X : List C4) : (sortFrom (X.length - 1) 1 X).Perm X ∧ (sortFrom (X.length - 1) 1 X).Pairwise fun a b => leastF a ≤ leastF b := by
  cases X with
  | nil => exact ⟨List.Perm.refl _, List.Pairwise.nil⟩
  | cons x rest =>
    have h := sort_ins rest [x]
    simp only [List.length_cons, List.length_nil, List.reverse_singleton, List.singleton_append] at h
    rw [show (x :: rest).length - 1 = rest.length by simp, h]
    refine ⟨(List.reverse_perm _).trans (fold_perm rest [x]), ?_⟩
    rw [List.pairwise_reverse]
    exact fold_sorted rest [x] (by simp)
theorem parts_of (l : List C4) : Parts l (partsF l) := by
  have h := parts_at l l.length (Nat.le_refl _)
  rw [List.take_length] at h
  exact h.perm (sort_eq _).1.symm
theorem least_mem {x : C4} (h : x ≠ C4.zero) : ∃ n : Nat, n < 256 ∧ x.mem n = true ∧ leastF x = n ∧ ∃ r, bytesL x = n :: r := by
  cases e : bytesL x with
  | nil => exact absurd (cnt_zero (by unfold cnt; rw [e]; rfl)) h
  | cons n r =>
    have : n ∈ bytesL x := by rw [e]; simp
    obtain ⟨a, b⟩ := mem_bytes.1 this
    exact ⟨n, a, b, by unfold leastF; rw [e], r, rfl⟩
theorem parts_sorted (l : List C4) : (partsF l).Pairwise fun a b => leastF a < leastF b := by
  have h := parts_of l
  have h1 := (sort_eq (allAt l l.length)).2
  have h2 : (partsF l).Pairwise fun a b => (a ∈ partsF l ∧ b ∈ partsF l ∧ a.meet b = C4.zero) := h.apart.imp_of_mem fun {a b} ha hb e => ⟨ha, hb, e⟩
  refine (h1.and h2).imp fun {a b} ⟨hle, ha, hb, hab⟩ => ?_
  obtain ⟨n, hn, hm, hl, _⟩ := least_mem (h.some a ha)
  obtain ⟨n', hn', hm', hl', _⟩ := least_mem (h.some b hb)
  have : n ≠ n' := fun e => by
    have := meet_zero.1 hab n hn hm
    rw [e, hm'] at this; cases this
  omega
end Go.Proofs.YtbiacehgfmgfdaaDoor.classL
