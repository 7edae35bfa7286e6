/- What a right tree tells is read as that tree; no program in sight. -/
import Derived.Test.YtnicebdkejkieaaTreeU
import Derived.Test.YtnicebdkejkieaaOfU
namespace Go.Proofs.Ytnicebdkejkieaa.treeL
open gramL eng
mutual
theorem acts_count {l : List gramL.Prod} : ∀ {t : Tree} {x : Sym} {v : Nat}, Right l t x v → 0 ≤ t.prod → ∃ I, (acts l t).length = 2 * I + leaves t ∧ (upE l t).length = I + leaves t ∧ I + leaves t = size t
  | .mk p k kids, x, v, h, h0 => by
    rw [Right] at h
    have h0 : 0 ≤ p := h0
    rcases h with ⟨_, a2, _, _⟩ | ⟨a1, a2, a3, a4, a5, a6⟩
    · omega
    · obtain ⟨I, e1, e2, e3⟩ := actss_count a6
      refine ⟨I + 1, ?_, ?_, ?_⟩
      · rw [acts_eq, List.length_cons, List.length_append, e1, leaves, if_neg (by omega)]; simp; omega
      · unfold upE
        rw [acts_eq, List.filterMap_cons_none rfl, List.filterMap_append, List.length_append, e2, leaves, if_neg (by omega)]; simp [evU]; omega
      · rw [leaves, if_neg (by omega), size]; omega
theorem actss_count {l : List gramL.Prod} : ∀ {ks : List Tree} {b : List Sym} {v : Nat}, Rights l ks b v → ∃ I, (actss l ks b).length = 2 * I + leavess ks ∧ ((actss l ks b).filterMap evU).length = I + leavess ks ∧ I + leavess ks = sizes ks
  | [], [], _, _ => ⟨0, by simp [actss, leavess], by simp [actss, leavess], by simp [leavess, sizes]⟩
  | [], _ :: _, _, h => by simp [Rights] at h
  | _ :: _, [], _, h => by simp [Rights] at h
  | .mk p k kk :: r, y :: b, v, h => by
    rw [Rights] at h
    obtain ⟨I, e1, e2, e3⟩ := actss_count h.2
    rw [actss, leavess, sizes]
    by_cases c : p < 0
    · rw [if_pos c]
      refine ⟨I, ?_, ?_, ?_⟩
      · rw [List.length_append, e1, leaves, if_pos c]; simp; omega
      · rw [List.filterMap_append, List.length_append, e2, leaves, if_pos c]; simp [evU]; omega
      · have h1 := h.1
        rw [Right] at h1
        rcases h1 with ⟨_, _, _, a4⟩ | ⟨_, a2, _⟩
        · subst a4
          rw [leaves, if_pos c, size, sizes]; omega
        · omega
    · rw [if_neg c]
      obtain ⟨J, f1, f2, f3⟩ := acts_count h.1 (by show 0 ≤ p; omega)
      refine ⟨I + J, ?_, ?_, ?_⟩
      · rw [List.length_append, e1, f1]; omega
      · rw [List.filterMap_append, List.length_append, e2]
        unfold upE at f2
        rw [f2]; omega
      · omega
end
theorem root_in {l : List gramL.Prod} {t : Tree} {v : Nat} (h : Right l t (2, 0) v) : 0 ≤ t.prod ∧ t.prod < (l.length : Int) ∧ (prodAt l t.prod).1 = 0 := by
  obtain ⟨p, k, kids⟩ := t
  rw [Right] at h
  rcases h with ⟨h, _⟩ | ⟨_, a, b, c, _⟩
  · cases h
  · exact ⟨a, b, c⟩
theorem lens_of {l : List gramL.Prod} {t : Tree} (h : Right l t (2, 0) 0) : ∃ I, (downE l t).length = 2 * I + leaves t ∧ (upE l t).length = I + leaves t ∧ I + leaves t = size t := by
  obtain ⟨I, a, b, c⟩ := acts_count h (root_in h).1
  exact ⟨I, by unfold downE; rw [List.length_map, a], b, c⟩
theorem back_down {g : Gram} {t : Tree} (hc : checkT g t = 0) : ofDE g (downE g.prods t) = 0 ∧ ofDT g (downE g.prods t) = t := by
  obtain ⟨a1, a2, a3, a4⟩ := checkT_iff.1 hc
  obtain ⟨I, e1, e2, e3⟩ := lens_of a2
  have hst : startE g (downE g.prods t) = 0 := by
    unfold startE
    rw [if_neg (by simpa using a1), if_neg (by omega)]
  have hx : downX g.prods t = downE g.prods t := if_neg (by have := (root_in a2).1; omega)
  obtain ⟨q, h1, h2⟩ := readD_of (l := g.prods) (E := downE g.prods t) (t := t) (x := (2, 0)) (u := 0) (a := 0) (f := (downE g.prods t).length + 1) (r := []) a2 (by omega) (by rw [hx]; simp)
  have hq := (readD_is h1).2.1
  have hq2 : q = (downE g.prods t).length := by
    have := congrArg List.length h2
    rw [List.length_drop] at this
    simp at this; omega
  have ho : ofD g (downE g.prods t) = some t := by
    unfold ofD
    rw [h1]
    dsimp only
    rw [if_pos hq2]
  unfold ofDE ofDT
  rw [if_neg (by simpa using hst), if_neg (by simpa using hst), ho]
  dsimp only
  exact ⟨hc, if_pos hc⟩
theorem back_up {g : Gram} {t : Tree} (hc : checkT g t = 0) : ofUE g (upE g.prods t) = 0 ∧ ofUT g (upE g.prods t) = t := by
  obtain ⟨a1, a2, a3, a4⟩ := checkT_iff.1 hc
  obtain ⟨I, e1, e2, e3⟩ := lens_of a2
  have hst : startE g (upE g.prods t) = 0 := by
    unfold startE
    rw [if_neg (by simpa using a1), if_neg (by omega)]
  have hx : upX g.prods t = upE g.prods t := if_neg (by have := (root_in a2).1; omega)
  have hh : ∀ p ∈ g.prods, 0 ≤ p.1 := fun p hp => ((checkG_ok a1).2.2.2.2.2 p hp).2.1
  have h1 := run_of (P := []) (r := []) hh a2
  rw [hx, List.append_nil, runP, List.nil_append] at h1
  have hd : headU g.prods t = 0 := by
    unfold headU
    rw [if_neg (by have := (root_in a2).1; omega), (root_in a2).2.2]
  have ho : ofU g (upE g.prods t) = some t := by
    rw [ofU_end, h1, hd]
    simp [endU]
  unfold ofUE ofUT
  rw [if_neg (by simpa using hst), if_neg (by simpa using hst), ho]
  dsimp only
  exact ⟨hc, if_pos hc⟩
/-! ### events of which a tree is read -/
theorem down_own {g : Gram} {E : List Sym} (h : ofDE g E = 0) : checkT g (ofDT g E) = 0 ∧ downE g.prods (ofDT g E) = E := by
  unfold ofDE at h
  unfold ofDT
  by_cases c : startE g E = 0
  · rw [if_neg (by simpa using c)] at h ⊢
    unfold ofD at h ⊢
    cases e : readD g.prods E (E.length + 1) (2, 0) 0 0 with
    | none => rw [e] at h; cases h
    | some r =>
      obtain ⟨t, a, k⟩ := r
      rw [e] at h
      dsimp only at h ⊢
      by_cases c2 : a = E.length
      · rw [if_pos c2] at h ⊢
        dsimp only at h ⊢
        rw [if_pos h]
        refine ⟨h, ?_⟩
        obtain ⟨_, _, h3⟩ := readD_is e
        obtain ⟨_, a2, _⟩ := checkT_iff.1 h
        have hx : downX g.prods t = downE g.prods t := if_neg (by have := (root_in a2).1; omega)
        rw [hx, c2, List.drop_length, List.append_nil, List.drop_zero] at h3
        exact h3.symm
      · rw [if_neg c2] at h; cases h
  · rw [if_pos c] at h; exact absurd h c
theorem up_own {g : Gram} {E : List Sym} (h : ofUE g E = 0) : checkT g (ofUT g E) = 0 ∧ upE g.prods (ofUT g E) = E := by
  unfold ofUE at h
  unfold ofUT
  by_cases c : startE g E = 0
  · rw [if_neg (by simpa using c)] at h ⊢
    rw [ofU_end] at h ⊢
    cases e : runP g.prods E [] 0 with
    | none => rw [e] at h; cases h
    | some r =>
      obtain ⟨l, k⟩ := r
      rw [e] at h
      have hr := run_up e
      by_cases c2 : l.length = 1
      · obtain ⟨⟨t, hd⟩, rfl⟩ := List.length_eq_one_iff.1 c2
        by_cases c3 : hd = 0
        · subst c3
          have he : endU (some ([(t, 0)], k)) = some t := by simp [endU]
          rw [he] at h ⊢
          dsimp only at h ⊢
          rw [if_pos h]
          refine ⟨h, ?_⟩
          obtain ⟨_, a2, _⟩ := checkT_iff.1 h
          have hx : upX g.prods t = upE g.prods t := if_neg (by have := (root_in a2).1; omega)
          simpa [upP, hx] using hr
        · have he : endU (some ([(t, hd)], k)) = none := by simp [endU, c3]
          rw [he] at h; cases h
      · rw [endU_ne c2] at h; cases h
  · rw [if_pos c] at h; exact absurd h c
theorem down_not {g : Gram} {E : List Sym} (h : ofDE g E ≠ 0) : ofDT g E = .mk 0 0 [] := by
  unfold ofDE at h
  unfold ofDT
  split
  · rfl
  · rename_i c
    rw [if_neg c] at h
    cases e : ofD g E with
    | none => rfl
    | some t =>
      rw [e] at h
      dsimp only at h ⊢
      rw [if_neg h]
theorem up_not {g : Gram} {E : List Sym} (h : ofUE g E ≠ 0) : ofUT g E = .mk 0 0 [] := by
  unfold ofUE at h
  unfold ofUT
  split
  · rfl
  · rename_i c
    rw [if_neg c] at h
    cases e : ofU g E with
    | none => rfl
    | some t =>
      rw [e] at h
      dsimp only at h ⊢
      rw [if_neg h]
theorem not_both {g : Gram} {E : List Sym} (h : ofDE g E = 0) : ofUE g E ≠ 0 := fun h2 => by
  obtain ⟨a1, a2⟩ := down_own h
  obtain ⟨b1, b2⟩ := up_own h2
  generalize ofDT g E = t at *
  generalize ofUT g E = s at *
  obtain ⟨p, k, kids⟩ := t
  unfold downE at a2
  rw [acts_eq] at a2
  have hm : ((1, p) : Sym) ∈ upE g.prods s := by rw [b2, ← a2]; simp [evD]
  unfold upE at hm
  obtain ⟨d, _, hd⟩ := List.mem_filterMap.1 hm
  cases d <;> simp [evU] at hd
end Go.Proofs.Ytnicebdkejkieaa.treeL
