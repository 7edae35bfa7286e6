/- Grammars: no program in sight. -/
import Derived.Laws.Entries
namespace Go.Proofs.Ytnicebdkejkieaa.gramL
abbrev Sym := Int × Int
abbrev Prod := Int × List Sym
structure Gram where
  terms : Int
  nons : Int
  prods : List Prod
/-- is it a symbol of the grammar? -/
def right (terms nons : Int) (x : Sym) : Bool := if x.1 = 1 then decide (0 ≤ x.2) && decide (x.2 < terms) else if x.1 = 2 then decide (0 ≤ x.2) && decide (x.2 < nons) else false
def prodE (terms nons : Int) (p : Prod) : Int := if 8 < p.2.length then 2 else if p.1 < 0 then 1 else if nons ≤ p.1 then 1 else if p.2.any (fun x => !right terms nons x) = true then 1 else 0
def prodsE (terms nons : Int) : List Prod → Int
  | [] => 0
  | p :: r => if prodE terms nons p ≠ 0 then prodE terms nons p else prodsE terms nons r
def checkG (g : Gram) : Int := if g.terms < 0 then 1 else if 30 < g.terms then 1 else if g.nons < 1 then 1 else if 20 < g.nons then 1 else if 40 < g.prods.length then 2 else prodsE g.terms g.nons g.prods
theorem prodE_ok {t n : Int} {p : Prod} (h : prodE t n p = 0) : p.2.length ≤ 8 ∧ 0 ≤ p.1 ∧ p.1 < n ∧ ∀ x ∈ p.2, right t n x = true := by
  unfold prodE at h
  split at h; · simp at h
  split at h; · simp at h
  split at h; · simp at h
  split at h; · simp at h
  rename_i a b c d
  refine ⟨by omega, by omega, by omega, fun x hx => ?_⟩
  simp only [List.any_eq_true, not_exists, not_and, Bool.not_eq_true', Bool.not_eq_false] at d
  simpa using d x hx
theorem prodsE_ok {t n : Int} : ∀ {l : List Prod}, prodsE t n l = 0 → ∀ p ∈ l, prodE t n p = 0
  | [], _, _, h => by cases h
  | q :: r, h, p, hp => by
    unfold prodsE at h
    split at h
    · contradiction
    · rename_i c
      rcases List.mem_cons.1 hp with rfl | hp
      · simpa using c
      · exact prodsE_ok h p hp
theorem prodsE_of {t n : Int} : ∀ {l : List Prod}, (∀ p ∈ l, prodE t n p = 0) → prodsE t n l = 0
  | [], _ => rfl
  | q :: r, h => by
    unfold prodsE
    rw [if_neg (by simp [h q (by simp)])]
    exact prodsE_of fun p hp => h p (by simp [hp])
theorem checkG_ok {g : Gram} (h : checkG g = 0) : 0 ≤ g.terms ∧ g.terms ≤ 30 ∧ 1 ≤ g.nons ∧ g.nons ≤ 20 ∧ g.prods.length ≤ 40 ∧ ∀ p ∈ g.prods, p.2.length ≤ 8 ∧ 0 ≤ p.1 ∧ p.1 < g.nons ∧ ∀ x ∈ p.2, right g.terms g.nons x = true := by
  unfold checkG at h
  split at h; · simp at h
  split at h; · simp at h
  split at h; · simp at h
  split at h; · simp at h
  split at h; · simp at h
  exact ⟨by omega, by omega, by omega, by omega, by omega, fun p hp => prodE_ok (prodsE_ok h p hp)⟩
theorem checkG_iff {g : Gram} : checkG g = 0 ↔ 0 ≤ g.terms ∧ g.terms ≤ 30 ∧ 1 ≤ g.nons ∧ g.nons ≤ 20 ∧ g.prods.length ≤ 40 ∧ ∀ p ∈ g.prods, prodE g.terms g.nons p = 0 := by
  constructor
  · intro h
    obtain ⟨a, b, c, d, e, _⟩ := checkG_ok h
    refine ⟨a, b, c, d, e, ?_⟩
    unfold checkG at h
    rw [if_neg (by omega), if_neg (by omega), if_neg (by omega), if_neg (by omega), if_neg (by omega)] at h
    exact prodsE_ok h
  · rintro ⟨a, b, c, d, e, f⟩
    unfold checkG
    rw [if_neg (by omega), if_neg (by omega), if_neg (by omega), if_neg (by omega), if_neg (by omega)]
    exact prodsE_of f
/-- turned round -/
def mirP (p : Prod) : Prod := (p.1, p.2.reverse)
def mirror (g : Gram) : Gram := ⟨g.terms, g.nons, g.prods.map mirP⟩
theorem mirror_mirror (g : Gram) : mirror (mirror g) = g := by
  unfold mirror
  simp only [List.map_map]
  have : (mirP ∘ mirP) = id := by funext p; simp [mirP]
  rw [this, List.map_id]
theorem prodE_mir (t n : Int) (p : Prod) : prodE t n (mirP p) = prodE t n p := by
  unfold prodE mirP
  simp only [List.length_reverse, List.any_reverse]
theorem prodsE_mir (t n : Int) : ∀ (l : List Prod), prodsE t n (l.map mirP) = prodsE t n l
  | [] => rfl
  | p :: r => by rw [List.map_cons, prodsE, prodsE, prodE_mir, prodsE_mir t n r]
theorem check_mirror (g : Gram) : checkG (mirror g) = checkG g := by
  unfold checkG mirror
  simp only [List.length_map, prodsE_mir]
/-- the productions of a nonterminal -/
def ofN (l : List Prod) (n : Int) : List Int := (l.zipIdx.filter fun x => x.1.1 = n).map fun x => (x.2 : Int)
end Go.Proofs.Ytnicebdkejkieaa.gramL
