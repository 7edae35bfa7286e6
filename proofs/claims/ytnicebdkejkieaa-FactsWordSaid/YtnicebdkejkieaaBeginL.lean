/- What a word of a grammar may begin with: the table's fixed point; no program in sight. -/
import Derived.Test.YtnicebdkejkieaaOpens
import Derived.Test.YtnicebdkejkieaaFactsT
namespace Go.Proofs.Ytnicebdkejkieaa.derL
open gramL treeL countL factsL eng
def setB (O : Nat → Nat → Bool) (h a : Nat) : Nat → Nat → Bool := fun i j => if i = h ∧ j = a then true else O i j
def fal (N m : Nat) (O : Nat → Nat → Bool) : Nat := sumN (fun i => sumN (fun j => if O i j = true then 0 else 1) m) N
def SoundO (l : List gramL.Prod) (w : List Int) (O : Nat → Nat → Bool) : Prop := ∀ (k : Nat) a, O k a = true → a ≤ w.length → ∃ v, Der l (2, (k : Int)) (w.drop a ++ v)
theorem sumN_lt {f f' : Nat → Nat} : ∀ {k i : Nat}, i < k → (∀ j, j < k → f j ≤ f' j) → f i < f' i → sumN f k < sumN f' k
  | k + 1, i, hi, h, hl => by
    rw [sumN, sumN]
    by_cases e : i = k
    · subst e
      have := sumN_mono (f := f) (f' := f') i fun j hj => h j (by omega)
      omega
    · have := sumN_lt (f := f) (f' := f') (k := k) (i := i) (by omega) (fun j hj => h j (by omega)) hl
      have := h k (by omega)
      omega
theorem fal_set {N m h a : Nat} {O : Nat → Nat → Bool} (hh : h < N) (ha : a < m) (ho : O h a = false) : fal N m (setB O h a) < fal N m O := by
  have hle : ∀ i j, (if setB O h a i j = true then 0 else 1) ≤ (if O i j = true then 0 else 1) := fun i j => by
    unfold setB
    by_cases e : i = h ∧ j = a
    · rw [if_pos e, if_pos rfl]; exact Nat.zero_le _
    · rw [if_neg e]; exact Nat.le_refl _
  unfold fal
  refine sumN_lt hh (fun i _ => sumN_mono m fun j _ => hle i j) (sumN_lt ha (fun j _ => hle h j) ?_)
  have e1 : setB O h a h a = true := by unfold setB; rw [if_pos ⟨rfl, rfl⟩]
  rw [e1, ho]; decide
/-- the pass: what it has come to -/
structure PassO (l : List gramL.Prod) (w : List Int) (o : Sym → Nat → Nat → Nat) (M : List Bool) (N : Nat) (O O' : Nat → Nat → Bool) (more : Bool) (i a : Nat) : Prop where
  sound : SoundO l w O'
  less : more = true → fal N (w.length + 1) O' < fal N (w.length + 1) O
  still : more = false → O' = O ∧ ∀ q a', (q < i ∨ (q = i ∧ a' < a)) → ∀ h : q < l.length, a' ≤ w.length → opensF o O M w.length a' l[q].2 = true → O l[q].1.toNat a' = true
section
variable {l : List gramL.Prod} {w : List Int} {n : Nat} {c : Chart} {M : List Bool} {O O' : Nat → Nat → Bool} {more : Bool} {i a : Nat}
theorem PassO.start (h : SoundO l w O) (o : Sym → Nat → Nat → Nat) (N : Nat) : PassO l w o M N O O false 0 0 := ⟨h, fun h => by (cases h), fun _ => ⟨rfl, fun q a' h => by omega⟩⟩
theorem PassO.next {o : Sym → Nat → Nat → Nat} {N : Nat} (h : PassO l w o M N O O' more i (w.length + 1)) : PassO l w o M N O O' more (i + 1) 0 := ⟨h.sound, h.less, fun e => ⟨(h.still e).1, fun q a' h1 h2 h3 => (h.still e).2 q a' (by omega) h2 h3⟩⟩
theorem PassO.skip {o : Sym → Nat → Nat → Nat} {N : Nat} (h : PassO l w o M N O O' more i a) (hi : i < l.length) (hn : O' l[i].1.toNat a = true ∨ opensF o O' M w.length a l[i].2 = false) : PassO l w o M N O O' more i (a + 1) := ⟨h.sound, h.less, fun e => by
  obtain ⟨rfl, h2⟩ := h.still e
  refine ⟨rfl, fun q a' h1 h3 h4 h5 => ?_⟩
  by_cases e2 : q = i ∧ a' = a
  · obtain ⟨rfl, rfl⟩ := e2
    rcases hn with hn | hn
    · exact hn
    · rw [hn] at h5; cases h5
  · exact h2 q a' (by omega) h3 h4 h5⟩
theorem PassO.set (hM : ∀ i : Nat, M.getD i false = true → ∃ ws, Der l (2, (i : Int)) ws) (hc : Lfp w l n c) (hs : SymsOk n l) {N : Nat} (h : PassO l w (oneF c w) M N O O' more i a) (hi : i < l.length) (ha : a ≤ w.length) (hN : l[i].1.toNat < N) (h0 : O' l[i].1.toNat a = false) (h1 : opensF (oneF c w) O' M w.length a l[i].2 = true) : PassO l w (oneF c w) M N O (setB O' l[i].1.toNat a) true i (a + 1) := by
  obtain ⟨s1, s2, s3⟩ := hs _ (List.getElem_mem hi)
  refine ⟨fun k b hk hb => ?_, fun _ => ?_, fun e => by cases e⟩
  · unfold setB at hk
    by_cases e : k = l[i].1.toNat ∧ b = a
    · obtain ⟨rfl, rfl⟩ := e
      obtain ⟨v, hv⟩ := opensF_sound hM hc hs h.sound ha (fun x hx => (s3 x hx)) h1
      exact ⟨v, .non (by show (2 : Int) ≠ 1; decide) (List.getElem_mem hi) (by show l[i].1 = ((l[i].1.toNat : Nat) : Int); omega) hv⟩
    · rw [if_neg e] at hk
      exact h.sound k b hk hb
  · have := fal_set (N := N) (m := w.length + 1) hN (by omega : a < w.length + 1) h0
    cases hm : more
    · obtain ⟨rfl, _⟩ := h.still hm
      exact this
    · have := h.less hm; omega
end
open Classical in
noncomputable def beginsB (g : Gram) (w : List Int) : Bool := decide (checkC g w = 0 ∧ ∃ v, Der g.prods (2, 0) (w ++ v))
open Classical in
theorem begins_iff {g : Gram} {w : List Int} : beginsB g w = true ↔ checkC g w = 0 ∧ ∃ v, Der g.prods (2, 0) (w ++ v) := by
  unfold beginsB
  rw [decide_eq_true_iff]
theorem fallsQ {n : Nat} {l : List gramL.Prod} (hf : Fine n l) (hs : SymsOk n l) : Falls (stepS l) (fun s => okR n s ∧ SoundS l s) (lackS n) :=
  ⟨fun s hs' => ⟨(fallsS hf).keep s hs'.1, roundL_sound hs l (fun _ h => h) _ hs'.2⟩, fun s hs' => (fallsS hf).dec s hs'.1⟩
theorem sound_of {g : Gram} {n : Nat} (hck : checkG g = 0) (hn : g.nons = n) : okR n (ofS n g.prods) ∧ SoundS g.prods (ofS n g.prods) := by
  have hf := fine_of hck hn
  have hs := symsOk_of hck hn
  have hz : ∀ i : Nat, (List.replicate n false).getD i false = false := fun i => by
    rw [List.getD_eq_getElem?_getD, List.getElem?_replicate]; split <;> rfl
  have h0 : SoundS g.prods ⟨List.replicate n false, (List.replicate n false).set 0 true, List.replicate n false, false⟩ :=
    ⟨fun i h => (by have h : (List.replicate n false).getD i false = true := h; rw [hz i] at h; cases h), fun i h => (by have h : (List.replicate n false).getD i false = true := h; rw [hz i] at h; cases h)⟩
  obtain ⟨s', h1, h2, h3⟩ := fix_end (fallsQ hf hs) _ ⟨List.replicate n false, (List.replicate n false).set 0 true, List.replicate n false, false⟩ ⟨⟨by simp, by simp, by simp⟩, h0⟩ (Nat.le_refl _)
  have e : ofS n g.prods = roundL g.prods ⟨s'.E, s'.R, s'.M, false⟩ := h3
  rw [e]
  exact (fallsQ hf hs).keep s' h1
/-- what the table tells at the top -/
theorem begins_of {g : Gram} {w : List Int} {n : Nat} {c : Chart} (hck : checkC g w = 0) (hn : g.nons = n) (hc : Lfp w g.prods n c) {O O' : Nat → Nat → Bool} {k : Nat} (h : PassO g.prods w (oneF c w) (ofS n g.prods).M k O O' false g.prods.length 0) : O' 0 0 = beginsB g w := by
  obtain ⟨hg, _, _⟩ := checkC_ok hck
  have hs := symsOk_of hg hn
  have hC := closed_of hg hn
  obtain ⟨rfl, hst⟩ := h.still rfl
  have e : O' 0 0 = true ↔ beginsB g w = true := by
    rw [begins_iff]
    constructor
    · intro h1
      obtain ⟨v, hv⟩ := h.sound 0 0 h1 (Nat.zero_le _)
      exact ⟨hck, v, hv⟩
    · rintro ⟨_, v, hv⟩
      have := open_of_der hC hc hs (O := O') (fun p hp a ha hop => by
        obtain ⟨q, hq, rfl⟩ := List.mem_iff_getElem.1 hp
        exact hst q a (.inl hq) hq ha hop) hv (by show (2 : Int) ≠ 1; decide) (a := 0) (v := v) (Nat.zero_le _) rfl
      exact this
  cases h1 : O' 0 0 <;> cases h2 : beginsB g w <;> simp_all
end Go.Proofs.Ytnicebdkejkieaa.derL
