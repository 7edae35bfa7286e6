/- Counting trees: how many there are, of a word; no program in sight. -/
import Derived.Test.YtnicebdkejkieaaCountN
namespace Go.Proofs.Ytnicebdkejkieaa.countL
open gramL
theorem Lfp.pre {w : List Int} {l : List gramL.Prod} {n : Nat} {c : Chart} (h : Lfp w l n c) : PreC w l n c := fun k a b hk h1 h2 => by rw [← h.fixed a b h1 h2 k hk]; exact Nat.le_refl _
theorem Lfp.unique {w : List Int} {l : List gramL.Prod} {n : Nat} {c c' : Chart} (h : Lfp w l n c) (h' : Lfp w l n c') {k a b : Nat} (hk : k < n) (h1 : a ≤ b) (h2 : b ≤ w.length) : c ((k : Int), (a : Int), (b : Int)) = c' ((k : Int), (a : Int), (b : Int)) :=
  Nat.le_antisymm (h.least c' h'.pre k a b hk h1 h2) (h'.least c h.pre k a b hk h1 h2)
open Classical in
/-- the least chart that is right -/
noncomputable def chartOf (w : List Int) (l : List gramL.Prod) (n : Nat) : Chart := fun x => if ∃ S, PreC w l n S ∧ S x = 0 then 0 else if ∃ S, PreC w l n S ∧ S x = 1 then 1 else 2
theorem pre2 {w : List Int} {l : List gramL.Prod} {n : Nat} : PreC w l n (fun _ => 2) := fun _ _ _ _ _ _ => nowF_le _ _ _ _ _
theorem chartOf_le {w : List Int} {l : List gramL.Prod} {n : Nat} {S : Chart} (hS : PreC w l n S) (x : Span) : chartOf w l n x ≤ S x := by
  unfold chartOf
  split
  · omega
  · rename_i h0
    split
    · have : S x ≠ 0 := fun e => h0 ⟨S, hS, e⟩
      omega
    · rename_i h1
      have a : S x ≠ 0 := fun e => h0 ⟨S, hS, e⟩
      have b : S x ≠ 1 := fun e => h1 ⟨S, hS, e⟩
      omega
theorem chartOf_glb {w : List Int} {l : List gramL.Prod} {n : Nat} {x : Span} {v : Nat} (h : ∀ S, PreC w l n S → v ≤ S x) : v ≤ chartOf w l n x := by
  unfold chartOf
  split
  · rename_i h0
    obtain ⟨S, hS, e⟩ := h0
    have := h S hS; omega
  · split
    · rename_i h1
      obtain ⟨S, hS, e⟩ := h1
      have := h S hS; omega
    · exact h _ pre2
theorem chartOf_pre {w : List Int} {l : List gramL.Prod} {n : Nat} (hl : NonsIn n l) : PreC w l n (chartOf w l n) := fun k a b hk h1 h2 =>
  chartOf_glb fun S hS => Nat.le_trans (now_mono hl h1 (fun q i j _ _ _ _ => chartOf_le hS _) k) (hS k a b hk h1 h2)
theorem chartOf_lfp {w : List Int} {l : List gramL.Prod} {n : Nat} (hl : NonsIn n l) : Lfp w l n (chartOf w l n) := by
  have hp := chartOf_pre (w := w) hl
  refine ⟨fun x => chartOf_le pre2 x, fun a b h1 h2 k hk => Nat.le_antisymm ?_ (hp k a b hk h1 h2), fun S hS k a b _ _ _ => chartOf_le hS _⟩
  have hS : PreC w l n (fun x => if 0 ≤ x.1 ∧ x.1 < (n : Int) ∧ 0 ≤ x.2.1 ∧ x.2.1 ≤ x.2.2 ∧ x.2.2 ≤ (w.length : Int) then nowF (oneF (chartOf w l n) w) l x.2.1.toNat x.2.2.toNat x.1.toNat else 2) := fun q i j hq h3 h4 => by
    dsimp only
    rw [if_pos (by omega), Int.toNat_natCast, Int.toNat_natCast, Int.toNat_natCast]
    refine now_mono hl h3 (fun q' i' j' hq' h5 h6 h7 => ?_) q
    dsimp only
    rw [if_pos (by omega), Int.toNat_natCast, Int.toNat_natCast, Int.toNat_natCast]
    exact hp q' i' j' hq' h6 (by omega)
  have := chartOf_le hS ((k : Int), (a : Int), (b : Int))
  dsimp only at this
  rw [if_pos (by omega), Int.toNat_natCast, Int.toNat_natCast, Int.toNat_natCast] at this
  exact this
theorem chartOf_eq {w : List Int} {l : List gramL.Prod} {n : Nat} {c : Chart} (hl : NonsIn n l) (h : Lfp w l n c) {k a b : Nat} (hk : k < n) (h1 : a ≤ b) (h2 : b ≤ w.length) : c ((k : Int), (a : Int), (b : Int)) = chartOf w l n ((k : Int), (a : Int), (b : Int)) := h.unique (chartOf_lfp hl) hk h1 h2
theorem nonsIn_of {g : Gram} {n : Nat} (h : checkG g = 0) (hn : g.nons = n) : NonsIn n g.prods := by
  obtain ⟨a1, a2, a3, a4, a5, a6⟩ := checkG_ok h
  intro p hp x hx h2
  have := (a6 p hp).2.2.2 x hx
  unfold right at this
  rw [if_neg (by omega), if_pos h2] at this
  simp at this; omega
noncomputable def treesN (g : Gram) (w : List Int) : Nat := if checkC g w = 0 then chartOf w g.prods g.nons.toNat (0, 0, (w.length : Int)) else 0
/-! charts as tables -/
def tabC (w : List Int) (T : List Nat) : Chart := fun x => T.getD ((x.1.toNat * (w.length + 1) + x.2.1.toNat) * (w.length + 1) + x.2.2.toNat) 0
def stepT (w : List Int) (l : List gramL.Prod) (n : Nat) (T : List Nat) : List Nat :=
  (List.range n).flatMap fun k => (List.range (w.length + 1)).flatMap fun a => (List.range (w.length + 1)).map fun b => if a ≤ b then nowF (oneF (tabC w T) w) l a b k else 0
theorem flat_len {α : Type} (m : Nat) (f : Nat → List α) (hf : ∀ i, (f i).length = m) : ∀ n, ((List.range n).flatMap f).length = n * m
  | 0 => by simp
  | n + 1 => by rw [List.range_succ, List.flatMap_append, List.length_append, flat_len m f hf n]; simp [hf, Nat.succ_mul]
theorem flat_get {α : Type} (m : Nat) (f : Nat → List α) (hf : ∀ i, (f i).length = m) : ∀ (n i j : Nat), i < n → j < m → ((List.range n).flatMap f)[i * m + j]? = (f i)[j]?
  | 0, _, _, h, _ => by omega
  | n + 1, i, j, hi, hj => by
    rw [List.range_succ, List.flatMap_append]
    by_cases c : i < n
    · have : i * m + j < n * m := by
        have : (i + 1) * m ≤ n * m := Nat.mul_le_mul_right m (by omega)
        rw [Nat.succ_mul] at this; omega
      rw [List.getElem?_append_left (by rw [flat_len m f hf]; exact this)]
      exact flat_get m f hf n i j c hj
    · obtain rfl : i = n := by omega
      rw [List.getElem?_append_right (by rw [flat_len m f hf]; omega), flat_len m f hf, Nat.add_sub_cancel_left]
      simp
theorem tab_step {w : List Int} {l : List gramL.Prod} {n : Nat} {T : List Nat} {k a b : Nat} (hk : k < n) (ha : a ≤ b) (hb : b ≤ w.length) : tabC w (stepT w l n T) ((k : Int), (a : Int), (b : Int)) = nowF (oneF (tabC w T) w) l a b k := by
  show (stepT w l n T).getD (((k : Int).toNat * (w.length + 1) + (a : Int).toNat) * (w.length + 1) + (b : Int).toNat) 0 = _
  rw [Int.toNat_natCast, Int.toNat_natCast, Int.toNat_natCast, List.getD_eq_getElem?_getD]
  unfold stepT
  generalize oneF (tabC w T) w = o
  have h1 : ∀ k a, ((List.range (w.length + 1)).map fun b => if a ≤ b then nowF o l a b k else 0).length = w.length + 1 := fun k a => by simp
  have h2 : ∀ k, ((List.range (w.length + 1)).flatMap fun a => (List.range (w.length + 1)).map fun b => if a ≤ b then nowF o l a b k else 0).length = (w.length + 1) * (w.length + 1) := fun k => flat_len _ _ (h1 k) _
  have e : (k * (w.length + 1) + a) * (w.length + 1) + b = k * ((w.length + 1) * (w.length + 1)) + (a * (w.length + 1) + b) := by
    rw [Nat.add_mul, Nat.mul_assoc, Nat.add_assoc]
  have hab : a * (w.length + 1) + b < (w.length + 1) * (w.length + 1) := by
    have : (a + 1) * (w.length + 1) ≤ (w.length + 1) * (w.length + 1) := Nat.mul_le_mul_right _ (by omega)
    rw [Nat.succ_mul] at this; omega
  rw [e, flat_get _ _ h2 n k _ hk hab, flat_get _ _ (h1 k) _ a b (by omega) (by omega)]
  rw [List.getElem?_map, List.getElem?_range (by omega)]
  simp [ha]
def iterT (w : List Int) (l : List gramL.Prod) (n : Nat) : Nat → List Nat
  | 0 => []
  | k + 1 => stepT w l n (iterT w l n k)
theorem stepT_mem {w : List Int} {l : List gramL.Prod} {n : Nat} {T : List Nat} : ∀ x ∈ stepT w l n T, x ≤ 2 := fun x hx => by
  unfold stepT at hx
  simp only [List.mem_flatMap, List.mem_map] at hx
  obtain ⟨k, _, a, _, b, _, rfl⟩ := hx
  split
  · exact nowF_le _ _ _ _ _
  · omega
theorem tab_le2 {w : List Int} {T : List Nat} (h : ∀ x ∈ T, x ≤ 2) (y : Span) : tabC w T y ≤ 2 := by
  unfold tabC
  rw [List.getD_eq_getElem?_getD]
  generalize (y.1.toNat * (w.length + 1) + y.2.1.toNat) * (w.length + 1) + y.2.2.toNat = i
  cases e : T[i]? with
  | none => simp
  | some v => exact h v (List.mem_of_getElem? e)
theorem iter_least {w : List Int} {l : List gramL.Prod} {n : Nat} (hl : NonsIn n l) {S : Chart} (hS : PreC w l n S) : ∀ (f k a b : Nat), k < n → a ≤ b → b ≤ w.length → tabC w (iterT w l n f) ((k : Int), (a : Int), (b : Int)) ≤ S ((k : Int), (a : Int), (b : Int))
  | 0, k, a, b, _, _, _ => by simp [iterT, tabC]
  | f + 1, k, a, b, hk, h1, h2 => by
    rw [iterT, tab_step hk h1 h2]
    exact Nat.le_trans (now_mono hl h1 (fun q i j hq h3 h4 h5 => iter_least hl hS f q i j hq h4 (by omega)) k) (hS k a b hk h1 h2)
theorem iter_lfp {w : List Int} {l : List gramL.Prod} {n f : Nat} (hl : NonsIn n l) (h : stepT w l n (iterT w l n (f + 1)) = iterT w l n (f + 1)) : Lfp w l n (tabC w (iterT w l n (f + 1))) :=
  ⟨tab_le2 stepT_mem, fun a b h1 h2 k hk => by rw [← tab_step hk h1 h2, h], fun S hS => iter_least hl hS (f + 1)⟩
theorem treesN_eq {g : Gram} {w : List Int} {c : Chart} (hc : checkC g w = 0) (h : Lfp w g.prods g.nons.toNat c) : c (0, 0, (w.length : Int)) = treesN g w := by
  obtain ⟨h1, h2, h3⟩ := checkC_ok hc
  obtain ⟨_, _, a3, _⟩ := checkG_ok h1
  unfold treesN
  rw [if_pos hc]
  exact chartOf_eq (nonsIn_of h1 (by omega)) h (k := 0) (a := 0) (by omega) (Nat.zero_le _) (Nat.le_refl _)
/-- as a table tells it -/
theorem treesN_tab {g : Gram} {w : List Int} {n : Nat} (f : Nat) (hn : g.nons = n) (hc : checkC g w = 0) (h : stepT w g.prods n (iterT w g.prods n (f + 1)) = iterT w g.prods n (f + 1)) : treesN g w = tabC w (iterT w g.prods n (f + 1)) (0, 0, (w.length : Int)) := by
  have hn2 : g.nons.toNat = n := by omega
  subst hn2
  exact (treesN_eq hc (iter_lfp (nonsIn_of (checkC_ok hc).1 hn) h)).symm
end Go.Proofs.Ytnicebdkejkieaa.countL
