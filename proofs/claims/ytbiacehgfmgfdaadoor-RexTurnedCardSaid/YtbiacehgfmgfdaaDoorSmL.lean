/- Automata with as few states as there may be: blocks; no program in sight. -/
import Derived.Laws.Entries
namespace Go.Proofs.YtbiacehgfmgfdaaDoor.smallL
/-! ### the first ones -/
section
variable {κ : Type} [DecidableEq κ]
def firsts : List κ → List κ → List κ
  | D, [] => D
  | D, k :: r => firsts (if k ∈ D then D else D ++ [k]) r
def more (D : List κ) (k : κ) : List κ := if k ∈ D then D else D ++ [k]
theorem firsts_snoc : ∀ (l D : List κ) (k : κ), firsts D (l ++ [k]) = more (firsts D l) k
  | [], _, _ => rfl
  | _ :: l, _, k => firsts_snoc l _ k
theorem more_pre (D : List κ) (k : κ) : ∃ E, more D k = D ++ E := by
  unfold more; split
  · exact ⟨[], by simp⟩
  · exact ⟨[k], rfl⟩
theorem mem_more {D : List κ} {k x : κ} : x ∈ more D k ↔ x ∈ D ∨ x = k := by
  unfold more; split
  · rename_i h
    exact ⟨.inl, fun e => e.elim id fun e => e ▸ h⟩
  · simp
theorem firsts_pre : ∀ (l D : List κ), ∃ E, firsts D l = D ++ E
  | [], D => ⟨[], by simp [firsts]⟩
  | k :: l, D => by
    obtain ⟨E, h⟩ := more_pre D k
    obtain ⟨E', h'⟩ := firsts_pre l (more D k)
    exact ⟨E ++ E', by show firsts (more D k) l = _; rw [h', h, List.append_assoc]⟩
theorem mem_firsts {x : κ} : ∀ {l D : List κ}, x ∈ firsts D l ↔ x ∈ D ∨ x ∈ l
  | [], D => by simp [firsts]
  | k :: l, D => by
    show x ∈ firsts (more D k) l ↔ _
    rw [mem_firsts, mem_more, List.mem_cons, or_assoc]
theorem more_nodup {D : List κ} {k : κ} (h : D.Nodup) : (more D k).Nodup := by
  unfold more; split
  · exact h
  · rename_i hk
    exact List.nodup_append.2 ⟨h, by simp, fun a ha b hb e => by simp at hb; subst hb e; exact hk ha⟩
theorem firsts_nodup : ∀ (l D : List κ), D.Nodup → (firsts D l).Nodup
  | [], _, h => h
  | _ :: l, _, h => firsts_nodup l _ (more_nodup h)
/-- the place of one; its list's length, if it isn't there -/
def idx (D : List κ) (k : κ) : Nat := D.idxOf k
theorem idx_lt {D : List κ} {k : κ} (h : k ∈ D) : idx D k < D.length := List.idxOf_lt_length_of_mem h
theorem idx_none {D : List κ} {k : κ} (h : k ∉ D) : idx D k = D.length := List.idxOf_eq_length h
theorem idx_get {D : List κ} {k : κ} (h : idx D k < D.length) : D[idx D k] = k := List.getElem_idxOf h
theorem idx_of_get {D : List κ} (hn : D.Nodup) {v : Nat} (h : v < D.length) : idx D D[v] = v := by
  have h1 := idx_lt (List.getElem_mem h)
  exact (List.getElem_inj hn).1 (idx_get h1)
theorem idx_head (k : κ) (E : List κ) : idx (k :: E) k = 0 := by simp [idx]
theorem idx_pre {D E : List κ} {k : κ} (h : k ∈ D) : idx (D ++ E) k = idx D k := by unfold idx; rw [List.idxOf_append, if_pos h]
/-- the number of one that has just come -/
theorem idx_more {D : List κ} {k : κ} : idx (more D k) k = if k ∈ D then idx D k else D.length := by
  unfold more; split
  · rfl
  · rename_i h
    unfold idx; rw [List.idxOf_append, if_neg h]; simp
theorem idx_more_old {D : List κ} {k x : κ} (h : x ∈ D) : idx (more D k) x = idx D x := by
  obtain ⟨E, e⟩ := more_pre D k
  rw [e, idx_pre h]
theorem idx_at {l D : List κ} {i : Nat} (hi : i < l.length) : idx (firsts D l) l[i] = if l[i] ∈ firsts D (l.take i) then idx (firsts D (l.take i)) l[i] else (firsts D (l.take i)).length := by
  have e : l = l.take (i + 1) ++ l.drop (i + 1) := (List.take_append_drop _ _).symm
  have h1 : l.take (i + 1) = l.take i ++ [l[i]] := List.take_succ_eq_append_getElem hi
  have h2 : ∃ E, firsts D l = firsts D (l.take (i + 1)) ++ E := by
    obtain ⟨E, h⟩ := firsts_pre (l.drop (i + 1)) (firsts D (l.take (i + 1)))
    refine ⟨E, ?_⟩
    rw [← h]
    have hap : ∀ (a b D : List κ), firsts D (a ++ b) = firsts (firsts D a) b := by
      intro a
      induction a with
      | nil => intro b D; rfl
      | cons x a ih => intro b D; exact ih b _
    rw [← hap, ← e]
  obtain ⟨E, h2⟩ := h2
  rw [h2, idx_pre, h1, firsts_snoc, idx_more]
  rw [h1, firsts_snoc, mem_more]; exact .inr rfl
theorem idx_inj {D : List κ} {x y : κ} (hx : x ∈ D) (h : idx D x = idx D y) : x = y := by
  have h1 := idx_lt hx
  have h2 : idx D y < D.length := h ▸ h1
  rw [← idx_get h1, ← idx_get h2]
  congr 1
end
theorem getD_left {α : Type} {l m : List α} {k : Nat} {d : α} (h : k < l.length) : (l ++ m).getD k d = l.getD k d := by
  rw [List.getD_eq_getElem?_getD, List.getElem?_append_left h, List.getD_eq_getElem?_getD]
theorem getD_right {α : Type} {l m : List α} {k : Nat} {d : α} (h : l.length ≤ k) : (l ++ m).getD k d = m.getD (k - l.length) d := by
  rw [List.getD_eq_getElem?_getD, List.getElem?_append_right h, List.getD_eq_getElem?_getD]
theorem nodup_bound {l : List Nat} {m : Nat} (h : l.Nodup) (hb : ∀ x ∈ l, x < m) : l.length ≤ m := by
  have hs : ∀ (l l' : List Nat), l.Nodup → (∀ x ∈ l, x ∈ l') → l.length ≤ l'.length := by
    intro l
    induction l with
    | nil => intro l' _ _; simp
    | cons x l ih =>
      intro l' hn hs
      rw [List.nodup_cons] at hn
      have hx : x ∈ l' := hs x (by simp)
      have := ih (l'.erase x) hn.2 (fun y hy => (List.mem_erase_of_ne (by rintro rfl; exact hn.1 hy)).2 (hs y (by simp [hy])))
      rw [List.length_erase_of_mem hx] at this
      have : 0 < l'.length := List.length_pos_of_mem hx
      simp; omega
  have := hs l (List.range m) h fun x hx => List.mem_range.2 (hb x hx)
  simpa using this
/-- a finer numbering with no more numbers is the same one -/
theorem finer_same {N : Nat} {f g : Nat → Nat} {n c : Nat} (hf : ∀ v, v < n → ∃ x, x < N ∧ f x = v) (hg : ∀ x, x < N → g x < c) (hr : ∀ x y, x < N → y < N → g x = g y → f x = f y) :
    n ≤ c ∧ (c = n → (∀ x, x < N → f x < n) → ∀ x y, x < N → y < N → f x = f y → g x = g y) := by
  have hc : ∃ p : Nat → Nat, ∀ v, v < n → p v < N ∧ f (p v) = v := by
    refine ⟨fun v => if h : v < n then (hf v h).choose else 0, fun v h => ?_⟩
    simp only [dif_pos h]
    exact (hf v h).choose_spec
  obtain ⟨p, hp⟩ := hc
  have hnd : ∀ l : List Nat, l.Nodup → (∀ v ∈ l, v < n) → (l.map fun v => g (p v)).Nodup := by
    intro l hl hb
    refine List.pairwise_map.2 (List.Pairwise.imp_of_mem (fun {a b} ha hb' hne e => hne ?_) hl)
    have h1 := hp a (hb a ha)
    have h2 := hp b (hb b hb')
    have := hr _ _ h1.1 h2.1 e
    rw [h1.2, h2.2] at this
    exact this
  refine ⟨?_, fun hcn hfb x y hx hy hxy => ?_⟩
  · have h1 := nodup_bound (m := c) (hnd (List.range n) List.nodup_range fun v hv => List.mem_range.1 hv) (fun z hz => by
      obtain ⟨v, hv, rfl⟩ := List.mem_map.1 hz
      exact hg _ (hp v (List.mem_range.1 hv)).1)
    simpa using h1
  · apply Classical.byContradiction
    intro hne
    have hv : f x < n := hfb x hx
    have hl : ((List.range n).erase (f x)).Nodup := List.nodup_range.erase _
    have hb : ∀ v ∈ (List.range n).erase (f x), v < n ∧ v ≠ f x := fun v hv => by
      have := (List.nodup_range.mem_erase_iff).1 hv
      exact ⟨List.mem_range.1 this.2, this.1⟩
    have h1 := hnd _ hl fun v hv => (hb v hv).1
    have hnot : ∀ z, z < N → f z = f x → g z ∉ ((List.range n).erase (f x)).map fun v => g (p v) := by
      intro z hz he hin
      obtain ⟨v, hv', e⟩ := List.mem_map.1 hin
      have h2 := hp v (hb v hv').1
      have := hr _ _ h2.1 hz e
      rw [h2.2, he] at this
      exact (hb v hv').2 this
    have h2 : (g x :: g y :: ((List.range n).erase (f x)).map fun v => g (p v)).Nodup := by
      rw [List.nodup_cons, List.nodup_cons]
      refine ⟨?_, hnot y hy hxy.symm, h1⟩
      rw [List.mem_cons, not_or]
      exact ⟨hne, hnot x hx rfl⟩
    have h3 := nodup_bound (m := c) h2 (fun z hz => by
      simp only [List.mem_cons] at hz
      rcases hz with rfl | rfl | hz
      · exact hg _ hx
      · exact hg _ hy
      · obtain ⟨v, hv, rfl⟩ := List.mem_map.1 hz
        exact hg _ (hp v (hb v hv).1).1)
    have h4 : ((List.range n).erase (f x)).length = n - 1 := by
      rw [List.length_erase_of_mem (List.mem_range.2 hv)]; simp
    simp [h4] at h3
    omega
end Go.Proofs.YtbiacehgfmgfdaaDoor.smallL
