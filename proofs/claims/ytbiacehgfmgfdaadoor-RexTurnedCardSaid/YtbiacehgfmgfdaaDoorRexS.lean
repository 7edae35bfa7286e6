/- Regular expressions as cells, as they come and numbered; memory that stays as it is. -/
import Derived.Test.YtbiacehgfmgfdaaDoorRexL
import Derived.Test.YtbiacehgfmgfdaaDoorClassSetsE
import Derived.Test.YtbiacehgfmgfdaaDoorMgB
namespace Go.Proofs.YtbiacehgfmgfdaaDoor.eng
open Go.RowKit kit mix classL rexL
/-- an expression that can be read, its blocks being in F -/
inductive RexIs (F : Nat → Prop) (w : World) : List Value → Rx → Prop
  | mk {k : Int} {c : C4} {kids : List Rx} {base : Option Addr} {cap : Nat} (css : List (List Value)) : kit.okI64 k → kids.length ≤ cap → cap ≤ maxLen → css.length = kids.length →
    (∀ i (h : i < kids.length) (h' : i < css.length), RexIs F w css[i] kids[i]) → (0 < kids.length → ∃ b off, base = some ⟨b, off, none⟩ ∧ F b ∧ ∀ i (_ : i < kids.length) (h' : i < css.length), Rd w b (off + i * 6) css[i]) →
    RexIs F w (.int .i64 k :: (clsL c ++ [.slice base kids.length cap])) (.mk k c kids)
theorem RexIs.len6 {F : Nat → Prop} {w : World} {cs : List Value} {t : Rx} (h : RexIs F w cs t) : cs.length = 6 := by
  cases h; rfl
theorem RexIs.stayed {F : Nat → Prop} {w w' : World} {cs : List Value} {t : Rx} (h : RexIs F w cs t) (hk : ∀ k, F k → w'.heap[k]? = w.heap[k]?) : RexIs F w' cs t := by
  induction h with
  | mk css h2 h3 h4 h5 h6 h7 ih =>
    refine .mk css h2 h3 h4 h5 ih fun hl => ?_
    obtain ⟨b, off, e, hF, hr⟩ := h7 hl
    exact ⟨b, off, e, hF, fun i hi hi' => rd_stay (hr i hi hi') (hk b hF)⟩
theorem RexIs.mono {F F' : Nat → Prop} {w : World} {cs : List Value} {t : Rx} (h : RexIs F w cs t) (hk : ∀ k, F k → F' k) : RexIs F' w cs t := by
  induction h with
  | mk css h2 h3 h4 h5 h6 h7 ih =>
    refine .mk css h2 h3 h4 h5 ih fun hl => ?_
    obtain ⟨b, off, e, hF, hr⟩ := h7 hl
    exact ⟨b, off, e, hk b hF, hr⟩
def rexS : Shp Rx := ⟨6, RexIs, fun h => h.len6, fun h hk => h.stayed hk, fun h hk => h.mono hk⟩
def rexC (k : Int) (c : C4) (v : Value) : List Value := .int .i64 k :: (clsL c ++ [v])
def rexV (k : Int) (c : C4) (v : Value) : Value := .agg (rexC k c v).toArray
theorem rex_iff {F : Nat → Prop} {w : World} {cs : List Value} {k : Int} {c : C4} {kids : List Rx} : RexIs F w cs (.mk k c kids) ↔ ∃ v, cs = rexC k c v ∧ kit.okI64 k ∧ SlF rexS F w v kids := by
  constructor
  · intro h
    cases h with
    | mk css h2 h3 h4 h5 h6 h7 =>
      refine ⟨_, rfl, h2, _, _, rfl, h3, h4, fun hl => ?_⟩
      obtain ⟨b, off, e, hF, hr⟩ := h7 hl
      exact ⟨b, off, e, hF, fun i hi => ⟨css[i]'(by omega), h6 i hi (by omega), hr i hi (by omega)⟩⟩
  · rintro ⟨v, rfl, h2, base, cap, rfl, h3, h4, h5⟩
    by_cases hl : 0 < kids.length
    · obtain ⟨b, off, e, hF, hr⟩ := h5 hl
      have hlen : (List.ofFn fun i : Fin kids.length => Classical.choose (hr i i.2)).length = kids.length := by simp
      refine .mk (List.ofFn fun i : Fin kids.length => Classical.choose (hr i i.2)) h2 h3 h4 hlen (fun i hi hi' => ?_) fun _ => ⟨b, off, e, hF, fun i hi hi' => ?_⟩
      · rw [List.getElem_ofFn]; exact (Classical.choose_spec (hr i hi)).1
      · rw [List.getElem_ofFn]; exact (Classical.choose_spec (hr i hi)).2
    · have : kids = [] := List.eq_nil_of_length_eq_zero (by omega)
      subst this
      exact .mk [] h2 h3 h4 rfl (fun i hi => absurd hi (by simp)) fun h => absurd h (by simp)
/-- an expression that is a value -/
def RexR (F : Nat → Prop) (w : World) (v : Value) (r : Rx) : Prop := ∃ vk, v = rexV r.kind r.cls vk ∧ kit.okI64 r.kind ∧ SlF rexS F w vk r.kids
theorem RexR.stay {F : Nat → Prop} {w w' : World} {v : Value} {r : Rx} (h : RexR F w v r) (hk : ∀ k, F k → w'.heap[k]? = w.heap[k]?) : RexR F w' v r :=
  let ⟨vk, h1, h2, h3⟩ := h; ⟨vk, h1, h2, h3.stay hk⟩
theorem RexR.mono {F F' : Nat → Prop} {w : World} {v : Value} {r : Rx} (h : RexR F w v r) (hk : ∀ k, F k → F' k) : RexR F' w v r :=
  let ⟨vk, h1, h2, h3⟩ := h; ⟨vk, h1, h2, h3.mono hk⟩
/-- what is there at all -/
def Low (w : World) : Nat → Prop := fun k => k < w.heap.size
theorem RexR.gr {w w' : World} {v : Value} {r : Rx} (h : RexR (Low w) w v r) (hg : Gr w w') : RexR (Low w') w' v r :=
  (h.stay fun k hk => hg.block k hk).mono fun k hk => Nat.lt_of_lt_of_le hk hg.size
theorem RexR.is {F : Nat → Prop} {w : World} {v : Value} {r : Rx} (h : RexR F w v r) : ∃ cs, v = .agg cs.toArray ∧ RexIs F w cs r := by
  obtain ⟨k, c, kids⟩ := r
  obtain ⟨vk, rfl, h1, h2⟩ := h
  exact ⟨_, rfl, rex_iff.2 ⟨vk, rfl, h1, h2⟩⟩
theorem RexIs.r {F : Nat → Prop} {w : World} {cs : List Value} {r : Rx} (h : RexIs F w cs r) : RexR F w (.agg cs.toArray) r := by
  obtain ⟨k, c, kids⟩ := r
  obtain ⟨vk, rfl, h1, h2⟩ := rex_iff.1 h
  exact ⟨vk, rfl, h1, h2⟩
/-- a kid -/
theorem rkid_at {F : Nat → Prop} {w : World} {b off : Nat} {l : List Rx} (h : ∀ i (h : i < l.length), ∃ cs, rexS.is F w cs l[i] ∧ Rd w b (off + i * rexS.c) cs) {k : Nat} (hk : k < l.length) :
    ∃ base cap, Rd w b (off + k * 6) (rexC l[k].kind l[k].cls (.slice base l[k].kids.length cap)) ∧ RexR F w (rexV l[k].kind l[k].cls (.slice base l[k].kids.length cap)) l[k] := by
  obtain ⟨cs, h1, hr⟩ := h k hk
  have h1 : RexIs F w cs l[k] := h1
  generalize l[k] = r at *
  obtain ⟨kd, c, kids⟩ := r
  obtain ⟨vk, rfl, a1, a2⟩ := rex_iff.1 h1
  have a2' := a2
  obtain ⟨base, cap, rfl, _⟩ := a2'
  exact ⟨base, cap, hr, _, rfl, a1, a2⟩
/-! ### numbered -/
/-- a node's kids and their numbers -/
def kidsK (r : Re) (k : Nat) : List (Re × Nat) := match r with
  | .cat a b => [(a, k + 1), (b, k + 1 + a.size)]
  | .alt a b => [(a, k + 1), (b, k + 1 + a.size)]
  | .star a => [(a, k + 1)]
  | _ => []
theorem kidsK_len (r : Re) (k : Nat) : (kidsK r k).length = r.kids.length := by cases r <;> rfl
/-- a numbered node that can be read, its kids' blocks being in F -/
inductive NumIs (F : Nat → Prop) (w : World) : List Value → Re × Nat → Prop
  | mk {r : Re} {k : Nat} {vk : Value} {base : Option Addr} {cap : Nat} (css : List (List Value)) : vk.oneCell' = true → (kidsK r k).length ≤ cap → cap ≤ maxLen → css.length = (kidsK r k).length →
    (∀ i (h : i < (kidsK r k).length) (h' : i < css.length), NumIs F w css[i] (kidsK r k)[i]) → (0 < (kidsK r k).length → ∃ b off, base = some ⟨b, off, none⟩ ∧ F b ∧ ∀ i (_ : i < (kidsK r k).length) (h' : i < css.length), Rd w b (off + i * 8) css[i]) →
    NumIs F w (.int .i64 r.kind :: (clsL r.cls ++ [vk, .int .i64 (k : Int), .slice base (kidsK r k).length cap])) (r, k)
theorem NumIs.len8 {F : Nat → Prop} {w : World} {cs : List Value} {t : Re × Nat} (h : NumIs F w cs t) : cs.length = 8 := by
  cases h; rfl
theorem NumIs.stayed {F : Nat → Prop} {w w' : World} {cs : List Value} {t : Re × Nat} (h : NumIs F w cs t) (hk : ∀ k, F k → w'.heap[k]? = w.heap[k]?) : NumIs F w' cs t := by
  induction h with
  | mk css h2 h3 h4 h5 h6 h7 ih =>
    refine .mk css h2 h3 h4 h5 ih fun hl => ?_
    obtain ⟨b, off, e, hF, hr⟩ := h7 hl
    exact ⟨b, off, e, hF, fun i hi hi' => rd_stay (hr i hi hi') (hk b hF)⟩
theorem NumIs.mono {F F' : Nat → Prop} {w : World} {cs : List Value} {t : Re × Nat} (h : NumIs F w cs t) (hk : ∀ k, F k → F' k) : NumIs F' w cs t := by
  induction h with
  | mk css h2 h3 h4 h5 h6 h7 ih =>
    refine .mk css h2 h3 h4 h5 ih fun hl => ?_
    obtain ⟨b, off, e, hF, hr⟩ := h7 hl
    exact ⟨b, off, e, hk b hF, hr⟩
def numS : Shp (Re × Nat) := ⟨8, NumIs, fun h => h.len8, fun h hk => h.stayed hk, fun h hk => h.mono hk⟩
def numC (r : Re) (k : Nat) (vk v : Value) : List Value := .int .i64 r.kind :: (clsL r.cls ++ [vk, .int .i64 (k : Int), v])
theorem num_iff {F : Nat → Prop} {w : World} {cs : List Value} {r : Re} {k : Nat} : NumIs F w cs (r, k) ↔ ∃ vk v, cs = numC r k vk v ∧ vk.oneCell' = true ∧ SlF numS F w v (kidsK r k) := by
  constructor
  · intro h
    cases h with
    | mk css h2 h3 h4 h5 h6 h7 =>
      refine ⟨_, _, rfl, h2, _, _, rfl, h3, h4, fun hl => ?_⟩
      obtain ⟨b, off, e, hF, hr⟩ := h7 hl
      exact ⟨b, off, e, hF, fun i hi => ⟨css[i]'(by omega), h6 i hi (by omega), hr i hi (by omega)⟩⟩
  · rintro ⟨vk, v, rfl, h2, base, cap, rfl, h3, h4, h5⟩
    by_cases hl : 0 < (kidsK r k).length
    · obtain ⟨b, off, e, hF, hr⟩ := h5 hl
      have hlen : (List.ofFn fun i : Fin (kidsK r k).length => Classical.choose (hr i i.2)).length = (kidsK r k).length := by simp
      refine .mk (List.ofFn fun i : Fin (kidsK r k).length => Classical.choose (hr i i.2)) h2 h3 h4 hlen (fun i hi hi' => ?_) fun _ => ⟨b, off, e, hF, fun i hi hi' => ?_⟩
      · rw [List.getElem_ofFn]; exact (Classical.choose_spec (hr i hi)).1
      · rw [List.getElem_ofFn]; exact (Classical.choose_spec (hr i hi)).2
    · exact .mk [] h2 h3 h4 (by simp; omega) (fun i hi => absurd hi (by omega)) fun h => absurd h hl
/-! ### memory that stays as it is -/
def frozO (F : Nat → Prop) (w1 : World) : Own :=
  ⟨none, F, fun w => (∀ k, F k → w.heap[k]? = w1.heap[k]?) ∧ ∀ k, F k → k < w.heap.size, fun w h k hk => h.2 k (hk.elim (fun h => by cases h) id),
    fun w w' h hs hb => ⟨fun k hk => (hb k (.inr hk)).trans (h.1 k hk), fun k hk => Nat.lt_of_lt_of_le (h.2 k hk) hs⟩⟩
section
variable {P : Program} {n : Nat} {W : Base} {fr : Fr} {L : List Own} {Q : Exit → Act → World → Prop} {ops : Array Oper} {rest : List Oper}
theorem Mem.reownAt {w : World} {i : Nat} {o : Own} (o' : Own) (h : Mem W L w) (hi : L[i]? = some o) (hh : o'.holds w) (hf : ∀ k, o'.foot k → o.foot k) : Mem W (L.set i o') w := by
  have hlen : i < L.length := (List.getElem?_eq_some_iff.1 hi).1
  have hoi := h.owns.all i o hi
  refine ⟨h.low, fun j q hj => ?_, fun j j' q q' hij hj hj' k hk hk' => ?_⟩
  · by_cases e : i = j
    · subst e
      rw [List.getElem?_set_self hlen] at hj
      simp only [Option.some.injEq] at hj; subst hj
      exact ⟨hh, fun k hk => hoi.2 k (hf k hk)⟩
    · rw [List.getElem?_set_ne e] at hj
      exact h.owns.all j q hj
  · by_cases e : i = j
    · subst e
      rw [List.getElem?_set_self hlen] at hj
      rw [List.getElem?_set_ne hij] at hj'
      simp only [Option.some.injEq] at hj; subst hj
      exact h.owns.apart i j' o q' hij hi hj' k (hf k hk) hk'
    · rw [List.getElem?_set_ne e] at hj
      by_cases e' : i = j'
      · subst e'
        rw [List.getElem?_set_self hlen] at hj'
        simp only [Option.some.injEq] at hj'; subst hj'
        exact h.owns.apart j i q o hij hj hi k hk (hf k hk')
      · rw [List.getElem?_set_ne e'] at hj'
        exact h.owns.apart j j' q q' hij hj hj' k hk hk'
theorem Mem.freeze {w : World} {i : Nat} {o : Own} (F : Nat → Prop) (h : Mem W L w) (hi : L[i]? = some o) (hF : ∀ k, F k → o.foot k) : Mem W (L.set i (frozO F w)) w :=
  h.reownAt (frozO F w) hi ⟨fun _ _ => rfl, fun k hk => o.lt w (h.get hi) k (hF k hk)⟩ fun k hk => hk.elim (fun e => by cases e) (hF k)
theorem TL_freeze {i : Nat} {o : Own} (F : Nat → Prop) (hi : L[i]? = some o) (hF : ∀ k, F k → o.foot k) (h : ∀ w1, o.holds w1 → TL P n W ops Q rest fr (L.set i (frozO F w1))) : TL P n W ops Q rest fr L :=
  .mk fun a w hr hm => (h w (hm.get hi)).go a w hr (hm.freeze F hi hF)
theorem T_freeze {c : Code} {i : Nat} {o : Own} (F : Nat → Prop) (hi : L[i]? = some o) (hF : ∀ k, F k → o.foot k) (h : ∀ w1, o.holds w1 → T P n W c Q fr (L.set i (frozO F w1))) : T P n W c Q fr L :=
  ⟨fun a w hr hm => (h w (hm.get hi)).go a w hr (hm.freeze F hi hF)⟩
theorem at_froz {i b off : Nat} {F : Nat → Prop} {w1 : World} {cs : List Value} (hi : L[i]? = some (frozO F w1)) (hF : F b) (h : Rd w1 b off cs) (j : Nat) (v : Value) (hj : cs[j]? = some v) : At W L ⟨b, off + j, none⟩ v := fun w hm =>
  rd_stay h ((hm.get hi : (frozO F w1).holds w).1 b hF) j v hj
end
end Go.Proofs.YtbiacehgfmgfdaaDoor.eng
