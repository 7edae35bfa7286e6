/- The room behind the kids of kids. -/
import Derived.Test.YtnicebdkejkieaaTrR
namespace Go.Proofs.Ytnicebdkejkieaa.eng
open Go.RowKit kit mix gramL treeL
def elC (e : Int × Int × Value) : List Value := [.int .i64 e.1, .int .i64 e.2.1, e.2.2]
theorem elC_len (e : Int × Int × Value) : (elC e).length = 3 := rfl
def wbO (F : Nat → Prop) (vs : List Value) : Own :=
  ⟨none, F, fun w => (∀ v ∈ vs, WB F w v) ∧ ∀ k, F k → k < w.heap.size, fun w h k hk => h.2 k (hk.elim (fun h => by cases h) id), fun w w' h hs hb => ⟨fun v hv => (h.1 v hv).stay fun k hk => hb k (.inr hk), fun k hk => Nat.lt_of_lt_of_le (h.2 k hk) hs⟩⟩
/-- the same without one block -/
def wbP (F : Nat → Prop) (g sz : Nat) (vs : List Value) : Own :=
  ⟨none, fun k => F k ∧ k ≠ g, fun w => (∀ v ∈ vs, WB (fun k => F k ∧ k ≠ g) w v ∨ ∃ n cap, v = .slice (some ⟨g, 0, none⟩) n cap ∧ cap * 3 = sz ∧ n ≤ cap ∧ cap ≤ maxLen) ∧ F g ∧ ∀ k, F k → k < w.heap.size, fun w h k hk => h.2.2 k (hk.elim (fun h => by cases h) fun h => h.1),
   fun w w' h hs hb => ⟨fun v hv => (h.1 v hv).imp (fun h => h.stay fun k hk => hb k (.inr hk)) id, h.2.1, fun k hk => Nat.lt_of_lt_of_le (h.2.2 k hk) hs⟩⟩
theorem wb_form {F : Nat → Prop} {vs : List Value} {w : World} (h : (wbO F vs).holds w) {v : Value} (hv : v ∈ vs) : v = .slice none 0 0 ∨ ∃ g n cap, v = .slice (some ⟨g, 0, none⟩) n cap ∧ n ≤ cap ∧ cap ≤ maxLen := by
  rcases h.1 v hv with h | ⟨g, n, cap, cs, h, _, _, _, h1, h2⟩
  · exact .inl h
  · exact .inr ⟨g, n, cap, h, h1, h2⟩
theorem wb_back {F : Nat → Prop} {vs : List Value} {g sz : Nat} {cs : Array Value} {w : World} (h : (wbP F g sz vs).holds w) (hb : (blkO g cs 46).holds w) (hsz : cs.size = sz) : (wbO F vs).holds w := by
  refine ⟨fun v hv => ?_, h.2.2⟩
  rcases h.1 v hv with h1 | ⟨n, cap, rfl, h1, h2, h3⟩
  · exact h1.mono fun k hk => hk.1
  · exact .inr ⟨g, n, cap, cs, rfl, h.2.1, hb, hsz.trans h1.symm, h2, h3⟩
section
variable {P : Program} {n : Nat} {W : Base} {fr : Fr} {L : List Own} {Q : Exit → Act → World → Prop} {ops : Array Oper} {rest : List Oper}
theorem TL_wbTake {i g m cap : Nat} {F : Nat → Prop} {vs : List Value} (hi : L[i]? = some (wbO F vs)) (hv : .slice (some ⟨g, 0, none⟩) m cap ∈ vs) (h : ∀ cs, cs.size = cap * 3 → TL P n W ops Q rest fr (L.set i (wbP F g (cap * 3) vs) ++ [blkO g cs 46])) : TL P n W ops Q rest fr L := ⟨fun a w hr hm => by
  have hh := hm.get hi
  rcases hh.1 _ hv with h1 | ⟨g', n', cap', cs, h1, h2, h3, h4, h5, h6⟩
  · cases h1
  · cases h1
    refine (h cs h4).go a w hr (hm.splitOwn hi (fun k hk => .inr (hk.elim (fun h => by cases h) fun h => h.1)) (fun k hk => .inr (hk.elim (fun h => by cases h; exact h2) False.elim)) (fun k hk hk' => hk.elim (fun h => by cases h) fun h => h.2 (hk'.elim (fun h' => by cases h'; rfl) False.elim)) ⟨fun v hv => ?_, h2, hh.2⟩ h3)
    rcases hh.1 v hv with k1 | ⟨g1, n1, cap1, cs1, rfl, k2, k3, k4, k5, k6⟩
    · exact .inl (.inl k1)
    · by_cases e : g1 = g
      · subst e
        rw [h3] at k3
        cases k3
        exact .inr ⟨n1, cap1, rfl, by omega, k5, k6⟩
      · exact .inl (.inr ⟨g1, n1, cap1, cs1, rfl, ⟨k2, e⟩, k3, k4, k5, k6⟩)⟩
theorem T_kidsW {c : Code} {i : Nat} {F : Nat → Prop} {v : Value} {l : List Tree} (hi : L[i]? = some (kidsW F v l)) (h : ∀ F' (es : List (Int × Int × Value)), es.length = l.length → T P n W c Q fr (L.set i (rowO 46 3 v l.length (es.flatMap elC)) ++ [wbO F' (es.map (·.2.2))])) : T P n W c Q fr L := ⟨fun a w hr hm => by
  obtain ⟨⟨F', css, h1, h2, h3, h4⟩, h5⟩ := hm.get hi
  have hel : ∀ i (hi : i < css.length), ∃ e : Int × Int × Value, css[i] = elC e ∧ WB F' w e.2.2 := fun i hi => by
    obtain ⟨a1, v', a2, a3⟩ := h4.1.2 i (by rw [← h4.1.1]; exact hi) hi
    obtain ⟨v, e, _⟩ := tree_mk a1
    rw [e] at a2
    cases a2
    exact ⟨((l[i]'(by rw [← h4.1.1]; exact hi)).prod, (l[i]'(by rw [← h4.1.1]; exact hi)).tok, _), e, a3⟩
  have hes : ∃ es : List (Int × Int × Value), es.map elC = css ∧ ∀ e ∈ es, WB F' w e.2.2 := by
    refine ⟨List.ofFn fun i : Fin css.length => Classical.choose (hel i i.2), ?_, fun e he => ?_⟩
    · refine List.ext_getElem (by simp) fun i hi hi' => ?_
      rw [List.getElem_map, List.getElem_ofFn]
      exact (Classical.choose_spec (hel i hi')).1.symm
    · obtain ⟨i, hi⟩ := List.mem_ofFn.1 he
      subst hi
      exact (Classical.choose_spec (hel i i.2)).2
  obtain ⟨es, he, hw⟩ := hes
  subst he
  refine (h F' es (by rw [← h4.1.1, List.length_map])).go a w hr (hm.splitOwn hi (fun k hk => .inr (h1 k (hk.elim .inr False.elim))) (fun k hk => .inr (h1 k (hk.elim (fun h => by cases h) .inl))) (fun k hk hk' => hk'.elim (fun h => by cases h) fun h' => h2 k h' (hk.elim id False.elim)) (by rw [← List.flatMap_def] at h3; exact h3) ⟨fun v hv => ?_, h4.2⟩)
  obtain ⟨e, he, rfl⟩ := List.mem_map.1 hv
  exact hw e he⟩
end
end Go.Proofs.Ytnicebdkejkieaa.eng
