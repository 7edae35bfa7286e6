/- Trees whose kids' blocks are known whole, the room behind the kids too. -/
import Derived.Test.YtnicebdkejkieaaTreeC
import Derived.Test.YtnicebdkejkieaaFam
namespace Go.Proofs.Ytnicebdkejkieaa.eng
open Go.RowKit kit mix gramL treeL
/-- a kids' slice with the room behind it -/
def WB (F : Nat → Prop) (w : World) (v : Value) : Prop := v = .slice none 0 0 ∨ ∃ g n cap cs, v = .slice (some ⟨g, 0, none⟩) n cap ∧ F g ∧ w.heap[g]? = some (.cells cs 46 (0, 0)) ∧ cs.size = cap * 3 ∧ n ≤ cap ∧ cap ≤ maxLen
theorem WB.stay {F : Nat → Prop} {w w' : World} {v : Value} (h : WB F w v) (hk : ∀ k, F k → w'.heap[k]? = w.heap[k]?) : WB F w' v := by
  rcases h with h | ⟨g, n, cap, cs, h1, h2, h3, h4⟩
  · exact .inl h
  · exact .inr ⟨g, n, cap, cs, h1, h2, by rw [hk g h2]; exact h3, h4⟩
theorem WB.mono {F F' : Nat → Prop} {w : World} {v : Value} (h : WB F w v) (hk : ∀ k, F k → F' k) : WB F' w v := by
  rcases h with h | ⟨g, n, cap, cs, h1, h2, h3⟩
  · exact .inl h
  · exact .inr ⟨g, n, cap, cs, h1, hk g h2, h3⟩
def treeW : Shp Tree := ⟨3, fun F w cs t => TreeIs F w cs t ∧ ∃ v, cs[2]? = some v ∧ WB F w v, fun h => h.1.len3, fun ⟨h, v, e, hv⟩ hk => ⟨h.stayed hk, v, e, hv.stay hk⟩, fun ⟨h, v, e, hv⟩ hk => ⟨h.mono hk, v, e, hv.mono hk⟩⟩
theorem elsW_S {F : Nat → Prop} {css : List (List Value)} {l : List Tree} {w : World} (h : (elsO treeW F css l).holds w) : (elsO treeS F css l).holds w :=
  ⟨⟨h.1.1, fun i hi hi' => (h.1.2 i hi hi').1⟩, h.2⟩
theorem row_lt {e : TypeId} {c n : Nat} {v : Value} {xs : List Value} {w : World} (hr : (rowO e c v n xs).holds w) {k : Nat} (hk : v.ownBlock = some k) : k < w.heap.size := (rowO e c v n xs).lt w hr k (.inl hk)
/-- kids that were made: a row of their cells, and what belongs to each; apart from each other -/
def kidsW (F : Nat → Prop) (v : Value) (l : List Tree) : Own :=
  ⟨none, F, fun w => (∃ F' css, (∀ k, Or1 F' v k → F k) ∧ (∀ k, F' k → v.ownBlock ≠ some k) ∧ (rowO 46 3 v l.length css.flatten).holds w ∧ (elsO treeW F' css l).holds w) ∧ ∀ k, F k → k < w.heap.size,
   fun w h k hk => h.2 k (hk.elim (fun h => by cases h) id),
   fun w w' h hs hb => by
    obtain ⟨⟨F', css, h1, h2, h3, h4⟩, h5⟩ := h
    refine ⟨⟨F', css, h1, h2, (rowO _ _ _ _ _).stay w w' h3 hs fun k hk => hb k (.inr (h1 k (hk.elim .inr False.elim))), (elsO _ _ _ _).stay w w' h4 hs fun k hk => hb k (.inr (h1 k (hk.elim (fun h => by cases h) .inl)))⟩, fun k hk => Nat.lt_of_lt_of_le (h5 k hk) hs⟩⟩
theorem kidsW_O {F : Nat → Prop} {v : Value} {l : List Tree} {w : World} (h : (kidsW F v l).holds w) : (kidsO F v l).holds w := by
  obtain ⟨⟨F', css, h1, h2, h3, h4⟩, h5⟩ := h
  exact ⟨⟨v, rfl, (slf_of (s := treeS) h3 (elsW_S h4) (by decide)).mono h1⟩, h5⟩
theorem kidsW_nil (w : World) : (kidsW (fun _ => False) (.slice none 0 0) []).holds w :=
  ⟨⟨fun _ => False, [], fun k hk => hk.elim id (fun h => by cases h), fun k h => h.elim, World.ownsRow_nil _ _ _ _, els_nil⟩, fun k h => h.elim⟩
theorem kidsW_mk {F : Nat → Prop} {v : Value} {css : List (List Value)} {l : List Tree} {w : World} (h3 : (rowO 46 3 v l.length css.flatten).holds w) (h4 : (elsO treeW F css l).holds w) (ha : ∀ k, (rowO 46 3 v l.length css.flatten).foot k → ¬ (elsO treeW F css l).foot k) : (kidsW (Or1 F v) v l).holds w :=
  ⟨⟨F, css, fun _ h => h, fun k hk e => ha k (.inl e) (.inr hk), h3, h4⟩, slO_lt (s := treeW) h3 h4⟩
theorem kidsW_one {F : Nat → Prop} {v : Value} {l : List Tree} {w : World} (h : (kidsW F v l).holds w) : v.oneCell' = true ∧ v.cells = #[v] := kidsO_one (kidsW_O h)
theorem kidsW_tree {F : Nat → Prop} {v : Value} {t : Tree} {w : World} (h1 : kit.okI64 t.prod) (h2 : kit.okI64 t.tok) (h : (kidsW F v t.kids).holds w) : TreeR (fun k => k < w.heap.size) w (treeV t.prod t.tok v) t := kidsO_tree h1 h2 (kidsW_O h)
/-- a tree of them -/
theorem kidsW_is {F : Nat → Prop} {p q : Int} {v : Value} {l : List Tree} {w : World} (h1 : kit.okI64 p) (h2 : kit.okI64 q) (h : (kidsW F v l).holds w) : treeW.is F w [.int .i64 p, .int .i64 q, v] (.mk p q l) := by
  obtain ⟨⟨v', hv, h5⟩, _⟩ := kidsW_O h
  simp only [List.cons.injEq, and_true] at hv
  subst hv
  refine ⟨tree_iff.2 ⟨v, rfl, h1, h2, h5⟩, v, rfl, ?_⟩
  obtain ⟨⟨F', css, e1, e2, ⟨_, h3⟩, h4⟩, _⟩ := h
  rcases h3 with ⟨rfl, _⟩ | ⟨g, cap, cs, rfl, _, b1, b2, b3, b4, _⟩
  · exact .inl rfl
  · exact .inr ⟨g, _, cap, cs, rfl, e1 g (.inr rfl), b1, b4, b2, b3⟩
section
variable {P : Program} {n : Nat} {W : Base} {fr : Fr} {L : List Own} {Q : Exit → Act → World → Prop} {ops : Array Oper} {rest : List Oper}
theorem TL_mergeA (o : Own) (i j : Nat) (js : List Nat) {o1 o2 : Own} {R : List Own} (hn : ([i, j] ++ js).Nodup) (h1 : L[i]? = some o1) (h2 : L[j]? = some o2) (hR : R = js.filterMap fun i => L[i]?) (hf : ∀ k, o.foot k → o1.foot k ∨ o2.foot k) (hh : ∀ w, o1.holds w → o2.holds w → (∀ k, o1.foot k → ¬ o2.foot k) → o.holds w) (h : TL P n W ops Q rest fr (R ++ [o])) : TL P n W ops Q rest fr L :=
  ⟨fun a w hr hm => h.go a w hr (hm.merge2A o i j js hn h1 h2 hR hf hh)⟩
/-- one thing, seen as two -/
theorem Mem.splitOwn {w : World} {i : Nat} {o o1 o2 : Own} (h : Mem W L w) (hi : L[i]? = some o) (f1 : ∀ k, o1.foot k → o.foot k) (f2 : ∀ k, o2.foot k → o.foot k) (ha : ∀ k, o1.foot k → ¬ o2.foot k) (h1 : o1.holds w) (h2 : o2.holds w) : Mem W (L.set i o1 ++ [o2]) w := by
  have hlen : i < L.length := (List.getElem?_eq_some_iff.1 hi).1
  have ho := h.owns.all i o hi
  have hset : ∀ j q, (L.set i o1)[j]? = some q → (j = i ∧ q = o1) ∨ (j ≠ i ∧ L[j]? = some q) := fun j q hj => by
    by_cases e : i = j
    · subst e
      rw [List.getElem?_set_self hlen] at hj
      exact .inl ⟨rfl, (Option.some.inj hj).symm⟩
    · rw [List.getElem?_set_ne e] at hj
      exact .inr ⟨fun e' => e e'.symm, hj⟩
  have hM : OwnsP W.may w (L.set i o1) := by
    refine ⟨fun j q hj => ?_, fun j j' q q' hij hj hj' k hk hk' => ?_⟩
    · rcases hset j q hj with ⟨_, rfl⟩ | ⟨_, e⟩
      · exact ⟨h1, fun k hk => ho.2 k (f1 k hk)⟩
      · exact h.owns.all j q e
    · rcases hset j q hj with ⟨e1, rfl⟩ | ⟨e1, e2⟩ <;> rcases hset j' q' hj' with ⟨e3, rfl⟩ | ⟨e3, e4⟩
      · exact hij (e1.trans e3.symm)
      · exact h.owns.apart i j' o q' (fun e => e3 e.symm) hi e4 k (f1 k hk) hk'
      · exact h.owns.apart j i q o e1 e2 hi k hk (f1 k hk')
      · exact h.owns.apart j j' q q' hij e2 e4 k hk hk'
  refine ⟨h.low, OwnsP.both hM (OwnsP.one h2 fun k hk => ho.2 k (f2 k hk)) fun j j' q q' hj hj' k hk hk' => ?_⟩
  match j', hj' with
  | 0, hj' =>
    simp only [List.getElem?_cons_zero, Option.some.injEq] at hj'; subst hj'
    rcases hset j q hj with ⟨_, rfl⟩ | ⟨e1, e2⟩
    · exact ha k hk hk'
    · exact h.owns.apart j i q o e1 e2 hi k hk (f2 k hk')
  | j' + 1, hj' => simp at hj'
theorem TL_kidsW {i : Nat} {F : Nat → Prop} {v : Value} {l : List Tree} (hi : L[i]? = some (kidsW F v l)) (h : ∀ F' css, TL P n W ops Q rest fr (L.set i (rowO 46 3 v l.length css.flatten) ++ [elsO treeW F' css l])) : TL P n W ops Q rest fr L := ⟨fun a w hr hm => by
  obtain ⟨⟨F', css, h1, h2, h3, h4⟩, h5⟩ := hm.get hi
  exact (h F' css).go a w hr (hm.splitOwn hi (fun k hk => .inr (h1 k (hk.elim .inr False.elim))) (fun k hk => .inr (h1 k (hk.elim (fun h => by cases h) .inl))) (fun k hk hk' => hk'.elim (fun h => by cases h) fun h' => h2 k h' (hk.elim id False.elim)) h3 h4)⟩
end
end Go.Proofs.Ytnicebdkejkieaa.eng
