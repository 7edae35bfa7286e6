/- Two automata told apart: what small.Apart computes, and what it means; no program in sight. -/
import Derived.Test.YtbiacehgfmgfdaaSmU
namespace Go.Proofs.Ytbiacehgfmgfdaa.smallL
abbrev Pr := Int × Int
abbrev Step := Pr × Int × Nat
def noStep : Step := ((0, 0), -1, 0)
def addT (todo : List Step) (s : Step) : List Step := if s.1 ∈ todo.map (·.1) then todo else todo ++ [s]
section
variable (A B : Aut)
def rowT (p : Pr) (n : Nat) (todo : List Step) : Nat → List Step
  | 0 => todo
  | k + 1 => addT (rowT p n todo k) ((dt A p.1 k, dt B p.2 k), (n : Int), k)
def apGo : Nat → Nat → List Step → Option Nat × List Step
  | 0, _, todo => (none, todo)
  | f + 1, n, todo => if n < todo.length then (if tg A (todo.getD n noStep).1.1 ≠ tg B (todo.getD n noStep).1.2 then (some n, todo) else apGo f (n + 1) (rowT A B (todo.getD n noStep).1 n todo 256)) else (none, todo)
end
/-- the way back from a step, the last byte first -/
def back (todo : List Step) : Nat → Nat → List UInt8
  | 0, _ => []
  | f + 1, i => if (todo.getD i noStep).2.1 < 0 then [] else UInt8.ofNat (todo.getD i noStep).2.2 :: back todo f (todo.getD i noStep).2.1.toNat
def wayB (todo : List Step) (i : Nat) : List UInt8 := back todo (i + 1) i
def fuelA : Nat := 40402
def apF (A B : Aut) : Option (List UInt8) := match apGo A B fuelA 0 [noStep] with
  | (some n, todo) => some (wayB todo n).reverse
  | (none, _) => none
section
variable {A B : Aut}
/-- steps so far -/
structure TOk (A B : Aut) (todo : List Step) : Prop where
  head : todo[0]? = some noStep
  nodup : (todo.map (·.1)).Nodup
  st : ∀ s ∈ todo, St A s.1.1 ∧ St B s.1.2
  up : ∀ k, 0 < k → k < todo.length → ∃ u : Nat, (todo.getD k noStep).2.1 = (u : Int) ∧ u < k ∧ (todo.getD k noStep).2.2 < 256 ∧ (todo.getD k noStep).1 = (dt A (todo.getD u noStep).1.1 (todo.getD k noStep).2.2, dt B (todo.getD u noStep).1.2 (todo.getD k noStep).2.2)
theorem addT_pre (todo : List Step) (s : Step) : ∃ E, addT todo s = todo ++ E := by
  unfold addT; split
  · exact ⟨[], by simp⟩
  · exact ⟨_, rfl⟩
theorem rowT_pre (p : Pr) (n : Nat) (todo : List Step) : ∀ k, ∃ E, rowT A B p n todo k = todo ++ E
  | 0 => ⟨[], by simp [rowT]⟩
  | k + 1 => by
    obtain ⟨E, h⟩ := rowT_pre p n todo k
    obtain ⟨E', h'⟩ := addT_pre (rowT A B p n todo k) ((dt A p.1 k, dt B p.2 k), (n : Int), k)
    exact ⟨E ++ E', by simp only [rowT]; rw [h', h, List.append_assoc]⟩
theorem addT_mem (todo : List Step) (s : Step) : s.1 ∈ (addT todo s).map (·.1) := by
  unfold addT; split
  · assumption
  · simp
theorem rowT_mem (p : Pr) (n : Nat) (todo : List Step) : ∀ k b, b < k → (dt A p.1 b, dt B p.2 b) ∈ (rowT A B p n todo k).map (·.1)
  | 0, _, h => by omega
  | k + 1, b, h => by
    simp only [rowT]
    by_cases c : b < k
    · obtain ⟨E, e⟩ := addT_pre (rowT A B p n todo k) ((dt A p.1 k, dt B p.2 k), (n : Int), k)
      rw [e, List.map_append]
      exact List.mem_append_left _ (rowT_mem p n todo k b c)
    · obtain rfl : b = k := by omega
      exact addT_mem (rowT A B p n todo b) _
theorem getD_memT {todo : List Step} {n : Nat} (h : n < todo.length) : todo.getD n noStep ∈ todo := by
  rw [List.getD_eq_getElem?_getD, List.getElem?_eq_getElem h]; exact List.getElem_mem h
theorem tok_add {todo : List Step} (h : TOk A B todo) {q : Pr} {u k : Nat} (hq : St A q.1 ∧ St B q.2) (hu : u < todo.length) (hk : k < 256) (he : q = (dt A (todo.getD u noStep).1.1 k, dt B (todo.getD u noStep).1.2 k)) : TOk A B (addT todo (q, (u : Int), k)) := by
  unfold addT
  split
  · exact h
  · rename_i hnot
    have hpos : 0 < todo.length := by have := h.head; cases todo with | nil => simp at this | cons a l => simp
    refine ⟨?_, ?_, ?_, ?_⟩
    · rw [List.getElem?_append_left hpos]; exact h.head
    · rw [List.map_append]
      exact List.nodup_append.2 ⟨h.nodup, by simp, fun a ha b hb e => by simp at hb; subst hb e; exact hnot ha⟩
    · intro s hs
      rcases List.mem_append.1 hs with hs | hs
      · exact h.st s hs
      · simp at hs; subst hs; exact hq
    · intro j h0 hj
      by_cases c : j < todo.length
      · obtain ⟨v, h1, h2, h3, h4⟩ := h.up j h0 c
        refine ⟨v, ?_⟩
        rw [getD_left c, getD_left (by omega)]
        exact ⟨h1, h2, h3, h4⟩
      · have : j = todo.length := by simp at hj; omega
        subst this
        refine ⟨u, ?_⟩
        rw [getD_right (Nat.le_refl _), Nat.sub_self, getD_left hu]
        exact ⟨rfl, hu, hk, he⟩
theorem tok_row (hA : A.Ok) (hB : B.Ok) {n : Nat} {todo : List Step} (h : TOk A B todo) (hn : n < todo.length) : ∀ k, k ≤ 256 → TOk A B (rowT A B (todo.getD n noStep).1 n todo k)
  | 0, _ => h
  | k + 1, hk => by
    have ih := tok_row hA hB h hn k (by omega)
    obtain ⟨E, e⟩ := rowT_pre (A := A) (B := B) (todo.getD n noStep).1 n todo k
    have hs := h.st _ (getD_memT hn)
    refine tok_add ih ⟨st_dt hA hs.1 (by omega), st_dt hB hs.2 (by omega)⟩ (by rw [e]; simp; omega) (by omega) ?_
    rw [e, getD_left hn]
theorem tok0 (hA : A.Ok) (hB : B.Ok) : TOk A B [noStep] := by
  have h1 := hA.pos
  have h2 := hB.pos
  refine ⟨rfl, by simp, fun s hs => ?_, fun k h0 hk => by simp at hk; omega⟩
  simp at hs; subst hs
  exact ⟨⟨by decide, by show (0 : Int) < _; omega⟩, ⟨by decide, by show (0 : Int) < _; omega⟩⟩
/-- no more pairs than there are -/
theorem tok_len (hA : A.Ok) (hB : B.Ok) {todo : List Step} (h : TOk A B todo) : todo.length ≤ 40401 := by
  have h1 : (todo.map fun s => ((s.1.1 + 1).toNat * 201 + (s.1.2 + 1).toNat)).Nodup := by
    have := h.nodup
    rw [show (todo.map fun s => ((s.1.1 + 1).toNat * 201 + (s.1.2 + 1).toNat)) = (todo.map (·.1)).map fun p : Pr => (p.1 + 1).toNat * 201 + (p.2 + 1).toNat by rw [List.map_map]; rfl]
    refine List.pairwise_map.2 (List.Pairwise.imp_of_mem (fun {a b} ha hb hne e => hne ?_) this)
    obtain ⟨s, hs, rfl⟩ := List.mem_map.1 ha
    obtain ⟨s', hs', rfl⟩ := List.mem_map.1 hb
    have a1 := h.st s hs
    have a2 := h.st s' hs'
    unfold St at a1 a2
    have := hA.le
    have := hB.le
    refine Prod.ext ?_ ?_ <;> omega
  have h2 := nodup_bound (m := 40401) h1 (fun x hx => by
    obtain ⟨s, hs, rfl⟩ := List.mem_map.1 hx
    have a1 := h.st s hs
    unfold St at a1
    have := hA.le
    have := hB.le
    omega)
  simpa using h2
/-- those before n have been looked at -/
def Looked (A B : Aut) (n : Nat) (todo : List Step) : Prop := ∀ k, k < n → tg A (todo.getD k noStep).1.1 = tg B (todo.getD k noStep).1.2 ∧ ∀ b, b < 256 → (dt A (todo.getD k noStep).1.1 b, dt B (todo.getD k noStep).1.2 b) ∈ todo.map (·.1)
theorem looked_step {n : Nat} {todo : List Step} (h : Looked A B n todo) (hn : n < todo.length) (ht : tg A (todo.getD n noStep).1.1 = tg B (todo.getD n noStep).1.2) : Looked A B (n + 1) (rowT A B (todo.getD n noStep).1 n todo 256) := by
  obtain ⟨E, e⟩ := rowT_pre (A := A) (B := B) (todo.getD n noStep).1 n todo 256
  have hm := rowT_mem (A := A) (B := B) (todo.getD n noStep).1 n todo 256
  rw [e] at hm ⊢
  intro k hk
  rw [getD_left (show k < todo.length by omega)]
  by_cases c : k < n
  · refine ⟨(h k c).1, fun b hb => ?_⟩
    rw [List.map_append]
    exact List.mem_append_left _ ((h k c).2 b hb)
  · obtain rfl : k = n := by omega
    exact ⟨ht, hm⟩
structure Ends (A B : Aut) (r : Option Nat × List Step) : Prop where
  ok : TOk A B r.2
  one : ∀ m, r.1 = some m → m < r.2.length ∧ (∀ k, k < m → tg A (r.2.getD k noStep).1.1 = tg B (r.2.getD k noStep).1.2) ∧ tg A (r.2.getD m noStep).1.1 ≠ tg B (r.2.getD m noStep).1.2
  none : r.1 = none → Looked A B r.2.length r.2
theorem ap_go (hA : A.Ok) (hB : B.Ok) : ∀ (f n : Nat) (todo : List Step), TOk A B todo → Looked A B n todo → n ≤ todo.length → 40402 ≤ f + n → Ends A B (apGo A B f n todo)
  | 0, n, todo, h, hl, hn, hf => by have := tok_len hA hB h; omega
  | f + 1, n, todo, h, hl, hn, hf => by
    unfold apGo
    by_cases c : n < todo.length
    · rw [if_pos c]
      by_cases c2 : tg A (todo.getD n noStep).1.1 = tg B (todo.getD n noStep).1.2
      · rw [if_neg (fun h => h c2)]
        obtain ⟨E, e⟩ := rowT_pre (A := A) (B := B) (todo.getD n noStep).1 n todo 256
        exact ap_go hA hB f (n + 1) _ (tok_row hA hB h c 256 (Nat.le_refl _)) (looked_step hl c c2) (by rw [e]; simp; omega) (by omega)
      · rw [if_pos c2]
        refine ⟨h, fun m hm => ?_, fun hm => by cases hm⟩
        obtain rfl : n = m := Option.some.inj hm
        exact ⟨c, fun k hk => (hl k hk).1, c2⟩
    · rw [if_neg c]
      obtain rfl : n = todo.length := by omega
      exact ⟨h, (fun m hm => by cases hm), fun _ => hl⟩
theorem ap_ends (hA : A.Ok) (hB : B.Ok) : Ends A B (apGo A B fuelA 0 [noStep]) := ap_go hA hB _ _ _ (tok0 hA hB) (fun k hk => by omega) (Nat.zero_le _) (Nat.le_refl _)
/-- nothing is found: they tell the same -/
theorem looked_same (hA : A.Ok) (hB : B.Ok) {todo : List Step} (h : TOk A B todo) (hl : Looked A B todo.length todo) : sameAB A B 0 0 := by
  have hstep : ∀ (s : List UInt8) (p : Pr), p ∈ todo.map (·.1) → tg A (go A p.1 s) = tg B (go B p.2 s) := by
    intro s
    induction s with
    | nil =>
      intro p hp
      obtain ⟨x, hx, rfl⟩ := List.mem_map.1 hp
      obtain ⟨k, hk, rfl⟩ := List.mem_iff_getElem.1 hx
      have := (hl k hk).1
      rw [List.getD_eq_getElem?_getD, List.getElem?_eq_getElem hk] at this
      exact this
    | cons b s ih =>
      intro p hp
      obtain ⟨x, hx, rfl⟩ := List.mem_map.1 hp
      obtain ⟨k, hk, rfl⟩ := List.mem_iff_getElem.1 hx
      have := (hl k hk).2 b.toNat b.toNat_lt
      rw [List.getD_eq_getElem?_getD, List.getElem?_eq_getElem hk] at this
      exact ih _ this
  intro s
  refine hstep s (0, 0) (List.mem_map.2 ⟨noStep, List.mem_of_getElem? h.head, rfl⟩)
/-! ### texts -/
theorem u8nat {n : Nat} (h : n < 256) : (UInt8.ofNat n).toNat = n := by simp; omega
theorem back_fuel {todo : List Step} (h : TOk A B todo) : ∀ (f i : Nat), i < todo.length → i < f → back todo f i = wayB todo i := by
  have key : ∀ (i : Nat), i < todo.length → ∀ f, i < f → back todo f i = back todo (i + 1) i := by
    intro i
    induction i using Nat.strongRecOn with
    | _ i ih =>
      intro hi f hf
      obtain ⟨g, rfl⟩ : ∃ g, f = g + 1 := ⟨f - 1, by omega⟩
      unfold back
      by_cases c : (todo.getD i noStep).2.1 < 0
      · rw [if_pos c, if_pos c]
      · rw [if_neg c, if_neg c]
        congr 1
        by_cases c0 : i = 0
        · subst c0
          have := h.head
          rw [List.getD_eq_getElem?_getD, this] at c
          exact absurd (by decide) c
        · obtain ⟨u, h1, h2, _⟩ := h.up i (by omega) hi
          rw [h1, Int.toNat_natCast, ih u h2 (by omega) g (by omega), ih u h2 (by omega) i h2]
  intro f i hi hf
  exact key i hi f hf
theorem way_zero {todo : List Step} (h : TOk A B todo) : wayB todo 0 = [] := by
  unfold wayB back
  rw [List.getD_eq_getElem?_getD, h.head]; rfl
theorem way_up {todo : List Step} (h : TOk A B todo) {i : Nat} (h0 : 0 < i) (hi : i < todo.length) : ∃ u : Nat, (todo.getD i noStep).2.1 = (u : Int) ∧ u < i ∧ wayB todo i = UInt8.ofNat (todo.getD i noStep).2.2 :: wayB todo u := by
  obtain ⟨u, h1, h2, _⟩ := h.up i h0 hi
  refine ⟨u, h1, h2, ?_⟩
  have : ¬ (todo.getD i noStep).2.1 < 0 := by omega
  show back todo (i + 1) i = _
  rw [back, if_neg this, h1, Int.toNat_natCast, back_fuel h i u (by omega) h2]
/-- the text of a step leads to its pair -/
theorem way_go {todo : List Step} (h : TOk A B todo) : ∀ (i : Nat), i < todo.length → go A 0 (wayB todo i).reverse = (todo.getD i noStep).1.1 ∧ go B 0 (wayB todo i).reverse = (todo.getD i noStep).1.2 := by
  have snoc : ∀ (A : Aut) (s : List UInt8) (b : UInt8) (q : Int), go A q (s ++ [b]) = dt A (go A q s) b.toNat := by
    intro A s
    induction s with
    | nil => intro b q; rfl
    | cons c s ih => intro b q; exact ih b _
  intro i
  induction i using Nat.strongRecOn with
  | _ i ih =>
    intro hi
    by_cases c0 : i = 0
    · subst c0
      rw [way_zero h, List.getD_eq_getElem?_getD, h.head]; exact ⟨rfl, rfl⟩
    · obtain ⟨u, h1, h2, h3⟩ := way_up h (by omega) hi
      obtain ⟨u', h1', _, h4, h5⟩ := h.up i (by omega) hi
      obtain rfl : u = u' := by rw [h1] at h1'; exact Int.ofNat.inj h1'
      obtain ⟨e1, e2⟩ := ih u h2 (by omega)
      have eb : (UInt8.ofNat (todo.getD i noStep).2.2).toNat = (todo.getD i noStep).2.2 := u8nat h4
      rw [h3, List.reverse_cons, snoc, snoc, e1, e2, eb, h5]
      exact ⟨rfl, rfl⟩
/-- a beginning of a step's text is an earlier step's -/
theorem way_pre {todo : List Step} (h : TOk A B todo) : ∀ (i : Nat), i < todo.length → ∀ n, n < (wayB todo i).length → ∃ k, k < i ∧ (wayB todo i).reverse.take n = (wayB todo k).reverse := by
  intro i
  induction i using Nat.strongRecOn with
  | _ i ih =>
    intro hi n hn
    by_cases c0 : i = 0
    · subst c0
      rw [way_zero h] at hn; simp at hn
    · obtain ⟨u, h1, h2, h3⟩ := way_up h (by omega) hi
      rw [h3] at hn ⊢
      rw [List.reverse_cons]
      simp only [List.length_cons] at hn
      by_cases c : n = (wayB todo u).length
      · exact ⟨u, h2, by rw [List.take_left' (by simp [c])]⟩
      · obtain ⟨k, hk, e⟩ := ih u h2 (by omega) n (by omega)
        exact ⟨k, by omega, by rw [List.take_append_of_le_length (by simp; omega)]; exact e⟩
theorem ap_none (hA : A.Ok) (hB : B.Ok) (h : apF A B = none) : sameAB A B 0 0 := by
  have he := ap_ends hA hB
  unfold apF at h
  revert he h
  generalize apGo A B fuelA 0 [noStep] = r
  obtain ⟨m, todo⟩ := r
  intro h he
  cases m with
  | some m => cases h
  | none => exact looked_same hA hB he.ok (he.none rfl)
theorem ap_some (hA : A.Ok) (hB : B.Ok) {s : List UInt8} (h : apF A B = some s) : tg A (go A 0 s) ≠ tg B (go B 0 s) ∧ ∀ n, n < s.length → tg A (go A 0 (s.take n)) = tg B (go B 0 (s.take n)) := by
  have he := ap_ends hA hB
  unfold apF at h
  revert he h
  generalize apGo A B fuelA 0 [noStep] = r
  obtain ⟨m, todo⟩ := r
  intro h he
  cases m with
  | none => cases h
  | some m =>
    obtain ⟨h1, h2, h3⟩ := he.one m rfl
    dsimp only at h h1 h2 h3
    obtain rfl := Option.some.inj h
    obtain ⟨e1, e2⟩ := way_go he.ok m h1
    dsimp only at e1 e2
    refine ⟨by rw [e1, e2]; exact h3, fun n hn => ?_⟩
    rw [List.length_reverse] at hn
    obtain ⟨k, hk, e⟩ := way_pre he.ok m h1 n hn
    obtain ⟨e3, e4⟩ := way_go he.ok k (Nat.lt_trans hk h1)
    dsimp only at e e3 e4
    rw [e, e3, e4]
    exact h2 k hk
/-! ### seen from the other one -/
def swp (s : Step) : Step := ((s.1.2, s.1.1), s.2)
theorem getD_swp (todo : List Step) (n : Nat) : (todo.map swp).getD n noStep = swp (todo.getD n noStep) := by
  rw [List.getD_eq_getElem?_getD, List.getElem?_map, List.getD_eq_getElem?_getD]
  cases todo[n]? <;> rfl
theorem addT_swp (todo : List Step) (s : Step) : addT (todo.map swp) (swp s) = (addT todo s).map swp := by
  have e : (swp s).1 ∈ (todo.map swp).map (·.1) ↔ s.1 ∈ todo.map (·.1) := by
    simp only [List.mem_map]
    constructor
    · rintro ⟨x, ⟨y, hy, rfl⟩, hx⟩
      exact ⟨y, hy, Prod.ext (congrArg Prod.snd hx) (congrArg Prod.fst hx)⟩
    · rintro ⟨y, hy, hx⟩
      exact ⟨swp y, ⟨y, hy, rfl⟩, Prod.ext (congrArg Prod.snd hx) (congrArg Prod.fst hx)⟩
  unfold addT
  by_cases c : s.1 ∈ todo.map (·.1)
  · rw [if_pos c, if_pos (e.2 c)]
  · rw [if_neg c, if_neg fun h => c (e.1 h)]; simp
theorem rowT_swp (p : Pr) (n : Nat) (todo : List Step) : ∀ k, rowT B A (p.2, p.1) n (todo.map swp) k = (rowT A B p n todo k).map swp
  | 0 => rfl
  | k + 1 => by
    simp only [rowT]
    rw [rowT_swp p n todo k]
    exact addT_swp _ ((dt A p.1 k, dt B p.2 k), (n : Int), k)
theorem apGo_swp : ∀ (f n : Nat) (todo : List Step), apGo B A f n (todo.map swp) = ((apGo A B f n todo).1, (apGo A B f n todo).2.map swp)
  | 0, _, _ => rfl
  | f + 1, n, todo => by
    unfold apGo
    rw [getD_swp, List.length_map]
    by_cases c : n < todo.length
    · rw [if_pos c, if_pos c]
      by_cases c2 : tg A (todo.getD n noStep).1.1 = tg B (todo.getD n noStep).1.2
      · rw [if_neg (fun h => h c2.symm), if_neg (fun h => h c2)]
        have := rowT_swp (A := A) (B := B) (todo.getD n noStep).1 n todo 256
        show apGo B A f (n + 1) (rowT B A ((todo.getD n noStep).1.2, (todo.getD n noStep).1.1) n (todo.map swp) 256) = _
        rw [this]
        exact apGo_swp f (n + 1) _
      · rw [if_pos (show tg B (swp (todo.getD n noStep)).1.1 ≠ tg A (swp (todo.getD n noStep)).1.2 from fun e => c2 e.symm), if_pos c2]
    · rw [if_neg c, if_neg c]
theorem back_swp (todo : List Step) : ∀ (f i : Nat), back (todo.map swp) f i = back todo f i
  | 0, _ => rfl
  | f + 1, i => by
    unfold back
    rw [getD_swp]
    show (if (todo.getD i noStep).2.1 < 0 then _ else UInt8.ofNat (todo.getD i noStep).2.2 :: back (todo.map swp) f (todo.getD i noStep).2.1.toNat) = _
    rw [back_swp todo f]
theorem ap_swp (A B : Aut) : apF B A = apF A B := by
  unfold apF
  have h := apGo_swp (A := A) (B := B) fuelA 0 [noStep]
  rw [show [noStep].map swp = [noStep] from rfl] at h
  rw [h]
  generalize apGo A B fuelA 0 [noStep] = r
  obtain ⟨m, todo⟩ := r
  cases m with
  | none => rfl
  | some m =>
    show some (wayB (todo.map swp) m).reverse = some (wayB todo m).reverse
    unfold wayB
    rw [back_swp]
theorem ap_iff (hA : A.Ok) (hB : B.Ok) : apF A B = none ↔ sameAB A B 0 0 :=
  ⟨ap_none hA hB, fun h => by
    cases e : apF A B with
    | none => rfl
    | some s => exact absurd (h s) (ap_some hA hB e).1⟩
end
end Go.Proofs.Ytbiacehgfmgfdaa.smallL
