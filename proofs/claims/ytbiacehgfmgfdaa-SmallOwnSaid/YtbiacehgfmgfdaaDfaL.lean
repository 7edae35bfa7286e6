/- Automata: no program in sight. -/
import Derived.Laws.Entries
namespace Go.Proofs.Ytbiacehgfmgfdaa.dfaL
/-- dfa.Check -/
def rowBad (n : Nat) (tag : Int) (row : List Int) : Bool := decide (tag < -1) || decide (20 ≤ tag) || row.any fun t => decide (t < -1) || decide ((n : Int) ≤ t)
def checkF (rows : List (List Int)) (tags : List Int) : Int :=
  if 200 < rows.length then 2 else if rows.length = 0 ∨ tags.length ≠ rows.length then 1 else if (List.range rows.length).any (fun i => rowBad rows.length (tags.getD i 0) (rows.getD i [])) then 1 else 0
theorem check_ok {rows : List (List Int)} {tags : List Int} (h : checkF rows tags = 0) : rows.length ≤ 200 ∧ 0 < rows.length ∧ tags.length = rows.length ∧ ∀ i, i < rows.length → -1 ≤ tags.getD i 0 ∧ tags.getD i 0 < 20 ∧ ∀ t ∈ rows.getD i [], -1 ≤ t ∧ t < rows.length := by
  unfold checkF at h
  split at h
  · simp at h
  · split at h
    · simp at h
    · split at h
      · simp at h
      · rename_i c1 c2 c3
        refine ⟨by omega, by omega, by omega, fun i hi => ?_⟩
        simp only [List.any_eq_true, List.mem_range, not_exists, not_and] at c3
        have := c3 i hi
        simp only [rowBad, Bool.or_eq_true, decide_eq_true_eq, List.any_eq_true, not_or, not_exists, not_and] at this
        obtain ⟨⟨a, b⟩, c⟩ := this
        refine ⟨by omega, by omega, fun t ht => ?_⟩
        have := c t ht
        omega
theorem checkF_cases (rows : List (List Int)) (tags : List Int) : checkF rows tags = 0 ∨ checkF rows tags = 1 ∨ checkF rows tags = 2 := by
  unfold checkF; split; simp; split; simp; split <;> simp
/-- dfa.Run, from a state on -/
def goes (rows : List (List Int)) : Int → List UInt8 → Int
  | now, [] => now
  | now, b :: s => if now < 0 then now else goes rows ((rows.getD now.toNat []).getD b.toNat 0) s
theorem goes_append (rows : List (List Int)) : ∀ (s t : List UInt8) (now : Int), goes rows now (s ++ t) = goes rows (goes rows now s) t
  | [], _, _ => rfl
  | b :: s, t, now => by
    simp only [List.cons_append, goes]
    split
    · rename_i h
      cases t with
      | nil => simp [goes]
      | cons c t => simp [goes, h]
    · exact goes_append rows s t _
theorem goes_neg (rows : List (List Int)) (s : List UInt8) (now : Int) (h : now < 0) : goes rows now s = now := by
  cases s with
  | nil => rfl
  | cons b s => simp [goes, h]
def runF (rows : List (List Int)) (tags : List Int) (s : List UInt8) : Int × Int := if checkF rows tags ≠ 0 then (0, checkF rows tags) else (goes rows 0 s, 0)
theorem step_range {rows : List (List Int)} {tags : List Int} (h : checkF rows tags = 0) (hw : ∀ r ∈ rows, r.length = 256) {now : Int} (h0 : 0 ≤ now) (h1 : now < rows.length) (b : UInt8) : -1 ≤ (rows.getD now.toNat []).getD b.toNat 0 ∧ (rows.getD now.toNat []).getD b.toNat 0 < rows.length := by
  obtain ⟨_, _, _, h2⟩ := check_ok h
  have h3 := (h2 now.toNat (by omega)).2.2
  have hlt : now.toNat < rows.length := by omega
  have e : rows.getD now.toNat [] = rows[now.toNat] := by rw [List.getD_eq_getElem?_getD, List.getElem?_eq_getElem hlt]; rfl
  rw [e] at h3 ⊢
  have hl := hw _ (List.getElem_mem hlt)
  have hb := b.toNat_lt
  have hbl : b.toNat < (rows[now.toNat]).length := by omega
  have e2 : (rows[now.toNat]).getD b.toNat 0 = (rows[now.toNat])[b.toNat] := by rw [List.getD_eq_getElem?_getD, List.getElem?_eq_getElem hbl]; rfl
  rw [e2]
  exact h3 _ (List.getElem_mem hbl)
end Go.Proofs.Ytbiacehgfmgfdaa.dfaL
