/- Part 2 of what GrammarOwn needs: Shp, GramL, Sym, GramI, GramB, SymS, Gram, FactsL, FactsA, FactsB, FactsC, FactsM, FactsD, FactsN, MixX, FactsO, FactsP, GramN, Brk, SymS2, FactsE, FactsF, TreeL, SmL. -/
import Derived.Test.YtomkjjpdnmcnnaaMgA
import Derived.WalkKit
import Derived.WalkSpells
import Derived.WalkLawsBesides
import Derived.Deep.RegionLaw
import Derived.Deep.AppendLies
import Derived.Deep.QuietTactic
import Derived.BigQuiet
import Derived.Deep.DeepCutAuto
import Derived.Lib.Hide
import Derived.Test.YtomkjjpdnmcnnaaRows
import Derived.ProofKit
import Derived.OpenShut
import Derived.ShutString
import Derived.SizedLaws
import Derived.JoinedCond
import Derived.Deep.CondSized
import Derived.Deep.Quiet
import Derived.StillTail
import Derived.Deep.LoopGhost
import Derived.Laws.BitsLemmas
import Derived.Laws.BytesString
import Derived.Test.YtomkjjpdnmcnnaaProg
import Derived.Laws.StructEq
import Derived.Laws.MakeOwn
import Derived.Laws.AppendOwn
import Derived.Laws.Entries
/- Shp -/
namespace Go.Proofs.Ytomkjjpdnmcnnaa.eng
open Go.RowKit kit mix
/-- how a datum reads, all of its blocks being in F -/
structure Shp (α : Type) where
  c : Nat
  is : (Nat → Prop) → World → List Value → α → Prop
  len : ∀ {F w cs a}, is F w cs a → cs.length = c
  stay : ∀ {F w w' cs a}, is F w cs a → (∀ k, F k → w'.heap[k]? = w.heap[k]?) → is F w' cs a
  mono : ∀ {F F' w cs a}, is F w cs a → (∀ k, F k → F' k) → is F' w cs a
def All : Nat → Prop := fun _ => True
theorem rd_stay {w w' : World} {b off : Nat} {cs : List Value} (h : Rd w b off cs) (hk : w'.heap[b]? = w.heap[b]?) : Rd w' b off cs := fun j u hj => by
  rw [World.cell?_of_block (w := w) (a := ⟨b, off + j, none⟩) hk]; exact h j u hj
/-- a slice -/
def SlF {α : Type} (s : Shp α) (F : Nat → Prop) (w : World) (v : Value) (l : List α) : Prop :=
  ∃ base cap, v = .slice base l.length cap ∧ l.length ≤ cap ∧ cap ≤ maxLen ∧ (0 < l.length → ∃ b off, base = some ⟨b, off, none⟩ ∧ F b ∧ ∀ i (h : i < l.length), ∃ cs, s.is F w cs l[i] ∧ Rd w b (off + i * s.c) cs)
section
variable {α β : Type} {s : Shp α} {F F' : Nat → Prop} {w w' : World} {v : Value} {l : List α}
theorem SlF.stay (h : SlF s F w v l) (hk : ∀ k, F k → w'.heap[k]? = w.heap[k]?) : SlF s F w' v l :=
  let ⟨base, cap, h1, h2, h3, h4⟩ := h
  ⟨base, cap, h1, h2, h3, fun h0 => let ⟨b, off, h5, h6, h7⟩ := h4 h0; ⟨b, off, h5, h6, fun i hi => let ⟨cs, h8, h9⟩ := h7 i hi; ⟨cs, s.stay h8 hk, rd_stay h9 (hk b h6)⟩⟩⟩
theorem SlF.mono (h : SlF s F w v l) (hk : ∀ k, F k → F' k) : SlF s F' w v l :=
  let ⟨base, cap, h1, h2, h3, h4⟩ := h
  ⟨base, cap, h1, h2, h3, fun h0 => let ⟨b, off, h5, h6, h7⟩ := h4 h0; ⟨b, off, h5, hk b h6, fun i hi => let ⟨cs, h8, h9⟩ := h7 i hi; ⟨cs, s.mono h8 hk, h9⟩⟩⟩
theorem SlF.nil : SlF s F w (.slice none 0 0) [] := ⟨none, 0, rfl, Nat.le_refl _, by decide, fun h => by simp at h⟩
/-- cells that a function tells -/
def flatS (f : α → List Value) (c : Nat) (hc : ∀ a, (f a).length = c) (p : α → Prop) : Shp α :=
  ⟨c, fun _ _ cs a => cs = f a ∧ p a, fun h => by rw [h.1, hc], fun h _ => h, fun h _ => h⟩
def intS : Shp Int := flatS (fun n => [.int .i64 n]) 1 (fun _ => rfl) kit.okI64
def sliceS (s : Shp α) : Shp (List α) :=
  ⟨1, fun F w cs l => ∃ v, cs = [v] ∧ SlF s F w v l, fun ⟨_, h, _⟩ => by rw [h]; rfl, fun ⟨v, h1, h2⟩ hk => ⟨v, h1, h2.stay hk⟩, fun ⟨v, h1, h2⟩ hk => ⟨v, h1, h2.mono hk⟩⟩
/-- one behind the other -/
def pairS (s : Shp α) (t : Shp β) : Shp (α × β) :=
  ⟨s.c + t.c, fun F w cs x => ∃ c1 c2, cs = c1 ++ c2 ∧ s.is F w c1 x.1 ∧ t.is F w c2 x.2, fun ⟨_, _, h, h1, h2⟩ => by rw [h, List.length_append, s.len h1, t.len h2],
    fun ⟨c1, c2, h, h1, h2⟩ hk => ⟨c1, c2, h, s.stay h1 hk, t.stay h2 hk⟩, fun ⟨c1, c2, h, h1, h2⟩ hk => ⟨c1, c2, h, s.mono h1 hk, t.mono h2 hk⟩⟩
/-- a slice of flat elements -/
theorem SlF.flat {f : α → List Value} {c : Nat} {hc : ∀ a, (f a).length = c} {p : α → Prop} (hc0 : 0 < c) (h : SlF (flatS f c hc p) F w v l) : Sl w v l.length (l.flatMap f) := by
  obtain ⟨base, cap, h1, h2, h3, h4⟩ := h
  have hx : SlX w (fun cs a => cs = f a) c v l := ⟨base, cap, h1, h2, h3, fun h0 => let ⟨b, off, h5, _, h7⟩ := h4 h0; ⟨b, off, h5, fun i hi => let ⟨cs, h8, h9⟩ := h7 i hi; ⟨cs, h8.1, h9⟩⟩⟩
  exact hx.flat hc hc0 fun cs a h => h
theorem SlF.okp {f : α → List Value} {c : Nat} {hc : ∀ a, (f a).length = c} {p : α → Prop} (h : SlF (flatS f c hc p) F w v l) : ∀ a ∈ l, p a := fun a ha => by
  obtain ⟨i, hi, rfl⟩ := List.mem_iff_getElem.1 ha
  obtain ⟨base, cap, h1, h2, h3, h4⟩ := h
  obtain ⟨b, off, _, _, h7⟩ := h4 (by omega)
  obtain ⟨cs, h8, _⟩ := h7 i hi
  exact h8.2
theorem SlF.of_flat {f : α → List Value} {c : Nat} {hc : ∀ a, (f a).length = c} {p : α → Prop} (h : Sl w v l.length (l.flatMap f)) (hp : ∀ a ∈ l, p a) (_ : ∀ b, v.ownBlock = some b → F b) (hF2 : ∀ a n cp, v = .slice (some a) n cp → F a.block) : SlF (flatS f c hc p) F w v l := by
  obtain ⟨base, cap, h1, h2, h3, h4⟩ := h
  refine ⟨base, cap, h1, h2, h3, fun h0 => ?_⟩
  obtain ⟨b, off, h5, h6⟩ := h4 h0
  refine ⟨b, off, h5, hF2 ⟨b, off, none⟩ l.length cap (by rw [h1, h5]), fun i hi => ⟨f l[i], ⟨rfl, hp _ (List.getElem_mem hi)⟩, fun j u hj => ?_⟩⟩
  have hjc : j < c := by rw [← hc l[i]]; exact (List.getElem?_eq_some_iff.1 hj).1
  have := h6 (i * c + j) u (by rw [get_el hc l i j hi hjc]; exact hj)
  rw [Nat.add_assoc]
  exact this
/-- owned whole -/
def shpO (s : Shp α) (F : Nat → Prop) (cs : List Value) (a : α) : Own :=
  ⟨none, F, fun w => s.is F w cs a ∧ ∀ k, F k → k < w.heap.size, fun w h k hk => h.2 k (hk.elim (fun h => by cases h) id), fun w w' h hs hb => ⟨s.stay h.1 fun k hk => hb k (.inr hk), fun k hk => Nat.lt_of_lt_of_le (h.2 k hk) hs⟩⟩
/-- elements, their cells lying elsewhere -/
def elsO (s : Shp α) (F : Nat → Prop) (css : List (List Value)) (l : List α) : Own :=
  ⟨none, F, fun w => (css.length = l.length ∧ ∀ i (h : i < l.length) (h' : i < css.length), s.is F w css[i] l[i]) ∧ ∀ k, F k → k < w.heap.size, fun w h k hk => h.2 k (hk.elim (fun h => by cases h) id),
    fun w w' h hs hb => ⟨⟨h.1.1, fun i hi hi' => s.stay (h.1.2 i hi hi') fun k hk => hb k (.inr hk)⟩, fun k hk => Nat.lt_of_lt_of_le (h.2 k hk) hs⟩⟩
end
theorem flatten_get {c : Nat} : ∀ (css : List (List Value)) (hc : ∀ x ∈ css, x.length = c) (i j : Nat) (h : i < css.length), j < c → css.flatten[i * c + j]? = css[i][j]?
  | x :: r, hc, 0, j, h, hj => by
    rw [List.flatten_cons, List.getElem?_append_left (by rw [hc x (by simp)]; omega)]; simp
  | x :: r, hc, i + 1, j, h, hj => by
    have hx := hc x (by simp)
    have ih := flatten_get r (fun y hy => hc y (by simp [hy])) i j (by simpa using h) hj
    rw [List.flatten_cons, List.getElem?_append_right (by rw [hx, Nat.succ_mul]; omega), hx]
    simp only [List.getElem_cons_succ]
    rw [← ih, Nat.succ_mul]
    congr 1; omega
section
variable {α : Type} {s : Shp α} {F : Nat → Prop} {w : World} {v : Value} {l : List α}
/-- one element more -/
theorem els_snoc {F2 : Nat → Prop} {css : List (List Value)} {cs : List Value} {a : α} (he : (elsO s F css l).holds w) (hs : s.is F2 w cs a) (h2 : ∀ k, F2 k → k < w.heap.size) : (elsO s (fun k => F k ∨ F2 k) (css ++ [cs]) (l ++ [a])).holds w := by
  obtain ⟨⟨h1, h3⟩, h4⟩ := he
  refine ⟨⟨by simp [h1], fun i hi hi' => ?_⟩, fun k hk => hk.elim (h4 k) (h2 k)⟩
  by_cases c : i < l.length
  · rw [List.getElem_append_left (by omega), List.getElem_append_left c]
    exact s.mono (h3 i c (by omega)) fun k hk => .inl hk
  · have hi2 : i = l.length := by simp at hi; omega
    subst hi2
    rw [List.getElem_append_right (by omega), List.getElem_append_right (Nat.le_refl _)]
    simp only [h1, Nat.sub_self, List.getElem_cons_zero]
    exact s.mono hs fun k hk => .inr hk
theorem els_nil : (elsO s (fun _ => False) [] []).holds w := ⟨⟨rfl, fun i h => by simp at h⟩, fun k h => h.elim⟩
end
section
variable {P : Program} {n : Nat} {W : Base} {fr : Fr} {L : List Own} {Q : Exit → Act → World → Prop} {ops : Array Oper} {rest : List Oper} {d : Nat}
theorem Mem.merge2 {w : World} (o : Own) (i j : Nat) (js : List Nat) {o1 o2 : Own} {R : List Own} (h : Mem W L w) (hn : ([i, j] ++ js).Nodup) (h1 : L[i]? = some o1) (h2 : L[j]? = some o2) (hR : R = js.filterMap fun i => L[i]?) (hf : ∀ k, o.foot k → o1.foot k ∨ o2.foot k) (hh : ∀ w, o1.holds w → o2.holds w → o.holds w) : Mem W (R ++ [o]) w := by
  refine Mem.merge o (h.pick ([i, j] ++ js) hn ?_) hf (hh w)
  rw [List.filterMap_append, ← hR]
  congr 1
  rw [List.filterMap_cons_some (by exact h1), List.filterMap_cons_some (by exact h2)]; rfl
theorem TL_merge (o : Own) (i j : Nat) (js : List Nat) {o1 o2 : Own} {R : List Own} (hn : ([i, j] ++ js).Nodup) (h1 : L[i]? = some o1) (h2 : L[j]? = some o2) (hR : R = js.filterMap fun i => L[i]?) (hf : ∀ k, o.foot k → o1.foot k ∨ o2.foot k) (hh : ∀ w, o1.holds w → o2.holds w → o.holds w) (h : TL P n W ops Q rest fr (R ++ [o])) : TL P n W ops Q rest fr L := ⟨fun a w hr hm => h.go a w hr (hm.merge2 o i j js hn h1 h2 hR hf hh)⟩
theorem E_merge {e : Exit} (o : Own) (i j : Nat) (js : List Nat) {o1 o2 : Own} {R : List Own} (hn : ([i, j] ++ js).Nodup) (h1 : L[i]? = some o1) (h2 : L[j]? = some o2) (hR : R = js.filterMap fun i => L[i]?) (hf : ∀ k, o.foot k → o1.foot k ∨ o2.foot k) (hh : ∀ w, o1.holds w → o2.holds w → o.holds w) (h : E n W e Q fr (R ++ [o])) : E n W e Q fr L := ⟨fun a w hr hm => h.go a w hr (hm.merge2 o i j js hn h1 h2 hR hf hh)⟩
/-- what needs no memory -/
theorem Mem.extra {w : World} (o : Own) (h : Mem W L w) (hf : ∀ k, ¬ o.foot k) (hh : o.holds w) : Mem W (L ++ [o]) w :=
  h.append (Gr.refl w) (OwnsP.one hh fun k hk => absurd hk (hf k))
theorem T_extra {c : Code} (o : Own) (hf : ∀ k, ¬ o.foot k) (hh : ∀ w, o.holds w) (h : T P n W c Q fr (L ++ [o])) : T P n W c Q fr L := ⟨fun a w hr hm => h.go a w hr (hm.extra o hf (hh w))⟩
theorem TL_extra (o : Own) (hf : ∀ k, ¬ o.foot k) (hh : ∀ w, o.holds w) (h : TL P n W ops Q rest fr (L ++ [o])) : TL P n W ops Q rest fr L := ⟨fun a w hr hm => h.go a w hr (hm.extra o hf (hh w))⟩
theorem E_extra {e : Exit} (o : Own) (hf : ∀ k, ¬ o.foot k) (hh : ∀ w, o.holds w) (h : E n W e Q fr (L ++ [o])) : E n W e Q fr L := ⟨fun a w hr hm => h.go a w hr (hm.extra o hf (hh w))⟩
/-- an element of an own slice is written over -/
theorem TL_setRow {α : Type} {f : α → List Value} {c : Nat} (hc : ∀ a, (f a).length = c) {t e : TypeId} {p x : Operand} {i g off cap k m : Nat} {agg : Bool} {l : List α} {a : α} {v : Value} (hT : Ty P t agg c) (hi : L[i]? = some (rowO e c (.slice (some ⟨g, 0, none⟩) m cap) m (l.flatMap f))) (hp : ev fr p = some (.pointer (some ⟨g, off, none⟩))) (hoff : off = k * c) (hk : k < l.length) (hm0 : m = l.length) (hx : ev fr x = some v) (hv : v.cells = (f a).toArray) (h1 : (f a).all Value.oneCell' = true)
    {ty : TypeId} {pos : String} {after : Array Edge}
    (h : TL P n W ops Q rest fr (L.set i (rowO e c (.slice (some ⟨g, 0, none⟩) m cap) m ((l.set k a).flatMap f)))) :
    TL P n W ops Q (⟨none, .store t p x, ty, pos, after, none⟩ :: rest) fr L := TL_any rfl fun act w hr hm K hK => by
  subst hoff hm0
  have hown : w.ownsRow 0 e c (.slice (some ⟨g, 0, none⟩) l.length cap) l.length (l.flatMap f) := hm.get hi
  have hown' := hown
  rcases hown.2 with ⟨h0, _⟩ | ⟨g', cap', cur, he, hbg, hg, hnc, hcm, hcs, htake⟩
  · cases h0
  simp only [Value.slice.injEq, Option.some.injEq, Addr.mk.injEq, and_true, true_and] at he
  obtain ⟨rfl, rfl⟩ := he
  have hfit : k * c + c ≤ cur.size := by
    have : (k + 1) * c ≤ cap * c := Nat.mul_le_mul_right _ (by omega)
    rw [hcs]; rw [Nat.add_mul, Nat.one_mul] at this; omega
  have hst := run_storeCells_at P g (k * c) e (f a) 0 cur w hg (by simp [hc]; exact hfit) (List.all_eq_true.1 h1)
  simp only [Nat.add_zero, hc] at hst
  have e' : (execOp act.eval ⟨none, .store t p x, ty, pos, after, none⟩).run P w = .ok .skip (w.setRow g (cur.toList.take (k * c) ++ f a ++ cur.toList.drop (k * c + c)).toArray) := by
    simp [execOp, hr.ev hp, hr.ev hx, Instr.storeAt, Instr.sureAddr, storeVar, hT.size, hv, hst, hc]
  unfold Oper.wp; rw [e']
  refine hK _ _ (h.go _ _ (hr.put_none undef) (hm.turn hi ⟨rfl, rfl, rfl, by simp, fun k _ hk => setRow_other w g k _ (fun e => hk (by subst e; rfl))⟩ ?_ fun k hk => .inl hk))
  have hlen := len_el hc l
  refine ⟨by rw [len_el hc]; simp, .inr ⟨g, cap, _, rfl, hbg, setRow_heap w g cur _ e _ hg, hnc, hcm, by simp [hc]; omega, ?_⟩⟩
  have e1 : (l.set k a).flatMap f = (l.flatMap f).take (k * c) ++ f a ++ (l.flatMap f).drop (k * c + c) := by
    have hl1 : ((l.take k).flatMap f).length = k * c := by rw [len_el hc, List.length_take, Nat.min_eq_left (by omega)]
    have hl2 : ((l.take (k + 1)).flatMap f).length = k * c + c := by rw [len_el hc, List.length_take, Nat.min_eq_left (by omega), Nat.add_mul, Nat.one_mul]
    have t1 : (l.flatMap f).take (k * c) = (l.take k).flatMap f := by
      rw [← hl1]
      conv => lhs; rw [← List.take_append_drop k l, List.flatMap_append]
      simp
    have t2 : (l.flatMap f).drop (k * c + c) = (l.drop (k + 1)).flatMap f := by
      rw [← hl2]
      conv => lhs; rw [← List.take_append_drop (k + 1) l, List.flatMap_append]
      simp
    rw [t1, t2, List.set_eq_take_append_cons_drop, if_pos hk]
    simp
  rw [e1, ← htake]
  have hkl : k * c + c ≤ l.length * c := by
    have : (k + 1) * c ≤ l.length * c := Nat.mul_le_mul_right _ (by omega)
    rw [Nat.add_mul, Nat.one_mul] at this; exact this
  simp only [List.take_take, List.take_append, List.length_append, hc, List.length_take, Array.length_toList]
  rw [Nat.min_eq_left (by omega : k * c ≤ cur.size), Nat.min_eq_right (by omega : k * c ≤ l.length * c), Nat.min_eq_left (by omega : k * c ≤ l.length * c)]
  rw [List.take_of_length_le (by rw [hc]; omega : (f a).length ≤ l.length * c - k * c)]
  congr 1
  rw [List.drop_take]
/-- a fact that what is owned tells -/
theorem TL_know {i : Nat} {o : Own} {φ : Prop} (hi : L[i]? = some o) (hφ : ∀ w, o.holds w → φ) (h : φ → TL P n W ops Q rest fr L) : TL P n W ops Q rest fr L := ⟨fun a w hr hm => (h (hφ w (hm.get hi))).go a w hr hm⟩
theorem T_know {c : Code} {i : Nat} {o : Own} {φ : Prop} (hi : L[i]? = some o) (hφ : ∀ w, o.holds w → φ) (h : φ → T P n W c Q fr L) : T P n W c Q fr L := ⟨fun a w hr hm => (h (hφ w (hm.get hi))).go a w hr hm⟩
end
end Go.Proofs.Ytomkjjpdnmcnnaa.eng

/- GramL -/
namespace Go.Proofs.Ytomkjjpdnmcnnaa.gramL
abbrev Sym := Int × Int
abbrev Prod := Int × List Sym
structure Gram where
  terms : Int
  nons : Int
  prods : List Prod
/-- is it a symbol of the grammar? -/
def right (terms nons : Int) (x : Sym) : Bool := if x.1 = 1 then decide (0 ≤ x.2) && decide (x.2 < terms) else if x.1 = 2 then decide (0 ≤ x.2) && decide (x.2 < nons) else false
def prodE (terms nons : Int) (p : Prod) : Int := if 8 < p.2.length then 2 else if p.1 < 0 then 1 else if nons ≤ p.1 then 1 else if p.2.any (fun x => !right terms nons x) = true then 1 else 0
def prodsE (terms nons : Int) : List Prod → Int
  | [] => 0
  | p :: r => if prodE terms nons p ≠ 0 then prodE terms nons p else prodsE terms nons r
def checkG (g : Gram) : Int := if g.terms < 0 then 1 else if 30 < g.terms then 1 else if g.nons < 1 then 1 else if 20 < g.nons then 1 else if 40 < g.prods.length then 2 else prodsE g.terms g.nons g.prods
theorem prodE_ok {t n : Int} {p : Prod} (h : prodE t n p = 0) : p.2.length ≤ 8 ∧ 0 ≤ p.1 ∧ p.1 < n ∧ ∀ x ∈ p.2, right t n x = true := by
  unfold prodE at h
  split at h; · simp at h
  split at h; · simp at h
  split at h; · simp at h
  split at h; · simp at h
  rename_i a b c d
  refine ⟨by omega, by omega, by omega, fun x hx => ?_⟩
  simp only [List.any_eq_true, not_exists, not_and, Bool.not_eq_true', Bool.not_eq_false] at d
  simpa using d x hx
theorem prodsE_ok {t n : Int} : ∀ {l : List Prod}, prodsE t n l = 0 → ∀ p ∈ l, prodE t n p = 0
  | [], _, _, h => by cases h
  | q :: r, h, p, hp => by
    unfold prodsE at h
    split at h
    · contradiction
    · rename_i c
      rcases List.mem_cons.1 hp with rfl | hp
      · simpa using c
      · exact prodsE_ok h p hp
theorem checkG_ok {g : Gram} (h : checkG g = 0) : 0 ≤ g.terms ∧ g.terms ≤ 30 ∧ 1 ≤ g.nons ∧ g.nons ≤ 20 ∧ g.prods.length ≤ 40 ∧ ∀ p ∈ g.prods, p.2.length ≤ 8 ∧ 0 ≤ p.1 ∧ p.1 < g.nons ∧ ∀ x ∈ p.2, right g.terms g.nons x = true := by
  unfold checkG at h
  split at h; · simp at h
  split at h; · simp at h
  split at h; · simp at h
  split at h; · simp at h
  split at h; · simp at h
  exact ⟨by omega, by omega, by omega, by omega, by omega, fun p hp => prodE_ok (prodsE_ok h p hp)⟩
end Go.Proofs.Ytomkjjpdnmcnnaa.gramL

/- Sym -/
namespace Go.Proofs.Ytomkjjpdnmcnnaa.eng
open Go.RowKit kit mix gramL
def symC (x : Sym) : List Value := [.int .i64 x.1, .int .i64 x.2]
def okSym (x : Sym) : Prop := kit.okI64 x.1 ∧ kit.okI64 x.2
theorem one_sym (l : List Sym) : ∀ u ∈ l.flatMap symC, u.oneCell' = true := by
  intro u hu
  obtain ⟨f, _, h⟩ := List.mem_flatMap.1 hu
  simp only [symC, List.mem_cons, List.not_mem_nil, or_false] at h
  rcases h with rfl | rfl <;> rfl
theorem eq_sym (f f' : Sym) (w : World) : (Op.equalIn 10000 60 (.agg (symC f).toArray) (.agg (symC f').toArray)).run Try.prog w = .ok (decide (f = f')) w := by
  obtain ⟨k, q⟩ := f
  obtain ⟨k', q'⟩ := f'
  unfold symC
  go_simp
  by_cases e1 : k = k' <;> by_cases e2 : q = q' <;> simp [e1, e2]
def symS : Shp Sym := flatS symC 2 (fun _ => rfl) okSym
def prodS : Shp gramL.Prod := pairS intS (sliceS symS)
def graV (t n : Int) (vp : Value) : Value := .agg #[.int .i64 t, .int .i64 n, vp]
/-- a grammar that can be read -/
def GraR (F : Nat → Prop) (w : World) (v : Value) (g : Gram) : Prop := ∃ vp, v = graV g.terms g.nons vp ∧ SlF prodS F w vp g.prods ∧ kit.okI64 g.terms ∧ kit.okI64 g.nons
theorem GraR.stay {F : Nat → Prop} {w w' : World} {v : Value} {g : Gram} (h : GraR F w v g) (hk : ∀ k, F k → w'.heap[k]? = w.heap[k]?) : GraR F w' v g :=
  let ⟨vp, h1, h2, h3⟩ := h; ⟨vp, h1, h2.stay hk, h3⟩
theorem SlF.gr {α : Type} {s : Shp α} {w w' : World} {v : Value} {l : List α} (h : SlF s (fun k => k < w.heap.size) w v l) (hg : Gr w w') : SlF s (fun k => k < w'.heap.size) w' v l :=
  (h.stay fun k hk => hg.block k hk).mono fun _ hk => Nat.lt_of_lt_of_le hk hg.size
theorem GraR.gr {w w' : World} {v : Value} {g : Gram} (h : GraR (fun k => k < w.heap.size) w v g) (hg : Gr w w') : GraR (fun k => k < w'.heap.size) w' v g :=
  let ⟨vp, h1, h2, h3⟩ := h; ⟨vp, h1, h2.gr hg, h3⟩
/-- a production of a list -/
theorem prod_at {F : Nat → Prop} {w : World} {b off : Nat} {l : List gramL.Prod} (h : ∀ i (h : i < l.length), ∃ cs, prodS.is F w cs l[i] ∧ Rd w b (off + i * prodS.c) cs) {k : Nat} (hk : k < l.length) :
    ∃ base cap, Rd w b (off + k * 2) [.int .i64 l[k].1, .slice base l[k].2.length cap] ∧ kit.okI64 l[k].1 ∧ SlF symS F w (.slice base l[k].2.length cap) l[k].2 := by
  obtain ⟨cs, ⟨c1, c2, rfl, ⟨rfl, hok⟩, ⟨vb, rfl, hvb⟩⟩, hr⟩ := h k hk
  have hvb' := hvb
  obtain ⟨base, cap, rfl, _⟩ := hvb'
  exact ⟨base, cap, hr, hok, hvb⟩
end Go.Proofs.Ytomkjjpdnmcnnaa.eng

/- GramI -/
namespace Go.Proofs.Ytomkjjpdnmcnnaa.eng
open Go.RowKit kit mix gramL
set_option maxRecDepth 100000
/-- where all blocks are the world's own -/
theorem slf_any {α : Type} {s : Shp α} {is : List Value → α → Prop} {w : World} {v : Value} {l : List α} (h : SlX w is s.c v l) (hi : ∀ cs a, is cs a → s.is (fun k => k < w.heap.size) w cs a) (h0 : 0 < s.c) : SlF s (fun k => k < w.heap.size) w v l := by
  obtain ⟨base, cap, h1, h2, h3, h4⟩ := h
  refine ⟨base, cap, h1, h2, h3, fun hl => ?_⟩
  obtain ⟨b, off, h5, h6⟩ := h4 hl
  refine ⟨b, off, h5, ?_, fun i hi' => let ⟨cs, h7, h8⟩ := h6 i hi'; ⟨cs, hi _ _ h7, h8⟩⟩
  obtain ⟨cs, h7, h8⟩ := h6 0 hl
  have hlen := s.len (hi _ _ h7)
  have hc := h8 0 (cs[0]'(by omega)) (List.getElem?_eq_getElem (by omega))
  have := World.block_lt_of_cell? w _ hc
  exact this
theorem opensM_sym {H : Type} {M : Msr Try.prog H} {enc0 : TypeId × Value → H} {W : World} : OpensM M enc0 W 60 (fun cs x => cs = symC x ∧ okSym x) := fun fuel cs x h hm => by
  obtain ⟨hl, hfs⟩ := fieldM_of Try.underlying60 h hm
  have hl2 : cs.length = 2 := hl
  obtain ⟨k, e0, k1⟩ := hfs 0 _ rfl (opensM_i64 Try.underlying3)
  obtain ⟨q, e1, q1⟩ := hfs 1 _ rfl (opensM_i64 Try.underlying3)
  replace e0 : (cs.drop 0).take 1 = [.int .i64 k] := e0
  replace e1 : (cs.drop 1).take 1 = [.int .i64 q] := e1
  refine ⟨(k, q), ?_, k1, q1⟩
  match cs, hl2 with
  | [x, y], _ =>
    simp only [List.drop_succ_cons, List.drop_zero, List.take_succ_cons, List.take_zero, List.cons.injEq, and_true] at e0 e1
    subst e0 e1
    rfl
end Go.Proofs.Ytomkjjpdnmcnnaa.eng

/- GramB -/
namespace Go.Proofs.Ytomkjjpdnmcnnaa.eng
open Go.RowKit kit mix gramL
set_option maxRecDepth 100000
theorem opensM_prodB {H : Type} {M : Msr Try.prog H} {enc0 : TypeId × Value → H} {W : World} : OpensM M enc0 W 57 (fun cs p => prodS.is (fun k => k < W.heap.size) W cs p ∧ M.lim 60 p.2.length) := fun fuel cs x h hm => by
  obtain ⟨hl, hfs⟩ := fieldM_of Try.underlying57 h hm
  have hl2 : cs.length = 2 := hl
  obtain ⟨k, e0, k1⟩ := hfs 0 _ rfl (opensM_i64 Try.underlying3)
  obtain ⟨l, ⟨v, e1, hs⟩, hlim⟩ := hfs 1 _ rfl (opensM_slice (c := 2) Try.underlying55 (by kernel_rfl) (by decide) opensM_sym fun cs a h => by rw [h.1]; rfl)
  replace e0 : (cs.drop 0).take 1 = [.int .i64 k] := e0
  replace e1 : (cs.drop 1).take 1 = [v] := e1
  refine ⟨(k, l), ⟨[.int .i64 k], [v], ?_, ⟨rfl, k1⟩, v, rfl, slf_any (s := symS) hs (fun cs a h => h) (by decide)⟩, hlim⟩
  match cs, hl2 with
  | [x, y], _ =>
    simp only [List.drop_succ_cons, List.drop_zero, List.take_succ_cons, List.take_zero, List.cons.injEq, and_true] at e0 e1
    subst e0 e1
    rfl
theorem opensM_gramB {H : Type} {M : Msr Try.prog H} {enc0 : TypeId × Value → H} {W : World} : OpensM M enc0 W 24 (fun cs g => GraR (fun k => k < W.heap.size) W (.agg cs.toArray) g ∧ M.lim 57 g.prods.length ∧ ∀ p ∈ g.prods, M.lim 60 p.2.length) := fun fuel cs x h hm => by
  obtain ⟨hl, hfs⟩ := fieldM_of Try.underlying24 h hm
  have hl3 : cs.length = 3 := hl
  obtain ⟨t, e0, k1⟩ := hfs 0 _ rfl (opensM_i64 Try.underlying3)
  obtain ⟨n, e1, q1⟩ := hfs 1 _ rfl (opensM_i64 Try.underlying3)
  obtain ⟨l, ⟨v, e2, hs⟩, hlim⟩ := hfs 2 _ rfl (opensM_slice (c := 2) Try.underlying22 (by kernel_rfl) (by decide) opensM_prodB fun cs a h => prodS.len h.1)
  replace e0 : (cs.drop 0).take 1 = [.int .i64 t] := e0
  replace e1 : (cs.drop 1).take 1 = [.int .i64 n] := e1
  replace e2 : (cs.drop 2).take 1 = [v] := e2
  refine ⟨⟨t, n, l⟩, ⟨v, ?_, slf_any (s := prodS) hs (fun cs a h => h.1) (by decide), k1, q1⟩, hlim, fun p hp => ?_⟩
  · match cs, hl3 with
    | [x, y, z], _ =>
      simp only [List.drop_succ_cons, List.drop_zero, List.take_succ_cons, List.take_zero, List.cons.injEq, and_true] at e0 e1 e2
      subst e0 e1 e2
      rfl
  · obtain ⟨i, hi, rfl⟩ := List.mem_iff_getElem.1 hp
    have hi : i < l.length := hi
    obtain ⟨base, cap, _, _, _, h4⟩ := hs
    obtain ⟨b, off, _, h6⟩ := h4 (by omega)
    obtain ⟨cs, h7, _⟩ := h6 i hi
    exact h7.2
theorem open_gramB {H : Type} {enc0 : TypeId × Value → H} {W : World} {base : Nat} {v : Value} {d : DataW H} {ps : List MemPlace} (hv : Value.okWide Try.prog W .any base 24 v) (h : DataW.Trod enc0 Try.prog W 0 (fun _ => true) true 24 v d ps) {ts : List TypeId} {ds : List (DataW H)} (hsz : (DataW.weightsEach Try.prog ts ds).all (· ≤ reachBytes) = true) (j : Nat) (hj : ts[j]? = some 24) (hd : ds[j]? = some d) :
    ∃ g : Gram, GraR (fun k => k < W.heap.size) W v g ∧ g.prods.length * 32 ≤ 140737488351232 ∧ ∀ p ∈ g.prods, p.2.length * 16 ≤ 140737488351232 := by
  obtain ⟨cs, g, rfl, h1, h2⟩ := topM_agg (M := weightM Try.prog H) Try.underlying24 hv h opensM_gramB (weightM_top hsz j hj hd)
  rw [Array.toArray_toList] at h1
  exact ⟨g, h1, h2⟩
end Go.Proofs.Ytomkjjpdnmcnnaa.eng

/- SymS -/
namespace Go.Proofs.Ytomkjjpdnmcnnaa.eng
open Go.RowKit kit mix gramL
theorem SymS_len (a : Sym) : (symC a).length = 2 := rfl
set_option maxHeartbeats 2000000 in
theorem equalSymS_calls (v v' : Value) (l l' : List Sym) (w : World) (hs : Sl w v l.length (l.flatMap symC)) (hs' : Sl w v' l'.length (l'.flatMap symC)) :
    Calls Try.prog 53 #[v, v'] w (Meets (ret (.bool (decide (l = l')))) w) := by
  obtain ⟨base, cap, rfl, hcap, hmax, hrd⟩ := hs
  obtain ⟨base', cap', rfl, hcap', hmax', hrd'⟩ := hs'
  unfold maxLen at hmax hmax'
  refine enter (args := [.slice base l.length cap, .slice base' l'.length cap']) (n := 26) Try.func53 rfl rfl rfl ?_
  by_cases c1 : l.length = l'.length
  · repeat(first|refine QV QP ?_|refine QZ ?_|refine qcT rfl ?_|refine qcF rfl ?_|refine E_blockX ?_|refine E_blockO rfl ?_|refine QV QL ?_|refine QV QlT ?_|refine QV QlF ?_|refine QV QnT ?_|refine QV QnF ?_|refine QV QaA ?_)
    refine T_loop (ι := Nat) (fun k => k ≤ l.length ∧ l.take k = l'.take k) (fun k => [(0, .slice base l.length cap), (1, .slice base' l'.length cap'), (12, .int .i64 l.length), (13, .int .i64 (k : Int))]) (fun _ => []) (fun k => l.length - k) 0 ⟨by omega, rfl⟩ ⟨rfl, rfl, rfl, rfl, trivial⟩ rfl ?_
    rintro k ⟨h1, h2⟩
    by_cases c2 : k < l.length
    · obtain ⟨b, off, rfl, hr⟩ := hrd (by omega)
      obtain ⟨b', off', rfl, hr'⟩ := hrd' (by omega)
      have c2' : k < l'.length := by omega
      have hat := at_el (L := ([] : List Own)) SymS_len hr c2
      have hat' := at_el (L := ([] : List Own)) SymS_len hr' c2'
      have heq := eq_sym l[k] l'[k]
      by_cases c3 : l[k] = l'[k]
      · rw [decide_eq_true c3] at heq
        repeat(first|refine QV QP ?_|refine QZ ?_|refine qcT rfl ?_|refine qcF rfl ?_|refine E_blockX ?_|refine E_blockO rfl ?_|refine QV QL ?_|refine QV QlT ?_|refine QV QlF ?_|refine QV QnT ?_|refine QV QnF ?_|refine QV QaA ?_)
        refine T_draw 8 (List.replicate 8 true) rfl (by kernel_rfl) (by kernel_rfl) (by intro c a d v w h; cases d <;> exact h) ?_
        repeat(first|refine TM_valg rfl (qp rfl) rfl rfl ?_|refine TM_valg rfl (rr_idxc Und.eq TyC.ty rfl rfl c2) rfl rfl ?_|refine TM_valg rfl (rr_idxc Und.eq TyC.ty rfl rfl c2') rfl rfl ?_|refine TM_valg rfl (rr_loadN TyC.ty rfl rfl hat) rfl rfl ?_|refine TM_valg rfl (rr_loadN TyC.ty rfl rfl hat') rfl rfl ?_|refine TM_valg rfl (qlen Und.eq rfl) rfl rfl ?_|refine TM_valg rfl (rr_lss rfl rfl (qT (by omega))) rfl rfl ?_|refine TM_valg rfl (rr_lss rfl rfl (qF (by omega))) rfl rfl ?_|refine TM_valg rfl (rr_neq rfl rfl (qT (by omega))) rfl rfl ?_|refine TM_valg rfl (rr_neq rfl rfl (qF (by omega))) rfl rfl ?_|refine TM_valg rfl (rr_add64 rfl rfl (by omega) (by omega) rfl) rfl rfl ?_|refine TM_end ?_)
        repeat(first|refine QV QP ?_|refine QZ ?_|refine qcT rfl ?_|refine qcF rfl ?_|refine E_blockX ?_|refine E_blockO rfl ?_|refine QV (rr_aggne rfl rfl (by kernel_rfl) heq rfl) ?_|refine QV QL ?_|refine QV QlT ?_|refine QV QlF ?_|refine QV QnT ?_|refine QV QnF ?_|refine QV QaA ?_)
        exact E_round (k + 1) ⟨by omega, by rw [List.take_succ_eq_append_getElem c2, List.take_succ_eq_append_getElem c2', h2, c3]⟩ (by show l.length - (k + 1) < l.length - k; omega) ⟨rfl, rfl, rfl, rfl, trivial⟩ rfl
      · rw [decide_eq_false c3] at heq
        rw [decide_eq_false (fun h => c3 (by subst h; rfl))]
        repeat(first|refine QV QP ?_|refine QZ ?_|refine qcT rfl ?_|refine qcF rfl ?_|refine E_blockX ?_|refine E_blockO rfl ?_|refine QV QL ?_|refine QV QlT ?_|refine QV QlF ?_|refine QV QnT ?_|refine QV QnF ?_|refine QV QaA ?_)
        refine T_draw 8 (List.replicate 8 true) rfl (by kernel_rfl) (by kernel_rfl) (by intro c a d v w h; cases d <;> exact h) ?_
        repeat(first|refine TM_valg rfl (qp rfl) rfl rfl ?_|refine TM_valg rfl (rr_idxc Und.eq TyC.ty rfl rfl c2) rfl rfl ?_|refine TM_valg rfl (rr_idxc Und.eq TyC.ty rfl rfl c2') rfl rfl ?_|refine TM_valg rfl (rr_loadN TyC.ty rfl rfl hat) rfl rfl ?_|refine TM_valg rfl (rr_loadN TyC.ty rfl rfl hat') rfl rfl ?_|refine TM_valg rfl (qlen Und.eq rfl) rfl rfl ?_|refine TM_valg rfl (rr_lss rfl rfl (qT (by omega))) rfl rfl ?_|refine TM_valg rfl (rr_lss rfl rfl (qF (by omega))) rfl rfl ?_|refine TM_valg rfl (rr_neq rfl rfl (qT (by omega))) rfl rfl ?_|refine TM_valg rfl (rr_neq rfl rfl (qF (by omega))) rfl rfl ?_|refine TM_valg rfl (rr_add64 rfl rfl (by omega) (by omega) rfl) rfl rfl ?_|refine TM_end ?_)
        repeat(first|refine QV QP ?_|refine QZ ?_|refine qcT rfl ?_|refine qcF rfl ?_|refine E_blockX ?_|refine E_blockO rfl ?_|refine QV (rr_aggne rfl rfl (by kernel_rfl) heq rfl) ?_|refine QV QL ?_|refine QV QlT ?_|refine QV QlF ?_|refine QV QnT ?_|refine QV QnF ?_|refine QV QaA ?_)
        exact E_ret1 rfl rfl fun w hm => hm.ret
    · have e : l = l' := by
        rw [List.take_of_length_le (by omega), List.take_of_length_le (by omega)] at h2; exact h2
      rw [decide_eq_true e]
      repeat(first|refine QV QP ?_|refine QZ ?_|refine qcT rfl ?_|refine qcF rfl ?_|refine E_blockX ?_|refine E_blockO rfl ?_|refine QV QL ?_|refine QV QlT ?_|refine QV QlF ?_|refine QV QnT ?_|refine QV QnF ?_|refine QV QaA ?_)
      exact E_ret1 rfl rfl fun w hm => hm.ret
  · rw [decide_eq_false (fun h => c1 (by rw [h]))]
    repeat(first|refine QV QP ?_|refine QZ ?_|refine qcT rfl ?_|refine qcF rfl ?_|refine E_blockX ?_|refine E_blockO rfl ?_|refine QV QL ?_|refine QV QlT ?_|refine QV QlF ?_|refine QV QnT ?_|refine QV QnF ?_|refine QV QaA ?_)
    exact E_ret1 rfl rfl fun w hm => hm.ret
set_option maxHeartbeats 2000000 in
theorem indexFuncSymS_calls (v : Value) (l : List Sym) (w : World) (hs : Sl w v l.length (l.flatMap symC)) (fid : FuncId) (first cp : Array Value) (p : Sym → Bool) (hen : Enters Try.prog fid)
    (hp : ∀ a ∈ l, ∀ w', Gr w w' → Calls Try.prog fid (first ++ #[(.agg (symC a).toArray)] ++ cp) w' (Meets (ret (.bool (p a))) w')) :
    Calls Try.prog 55 #[v, .func (.func fid) first cp] w (Meets (ret (.int .i64 (idxF p l))) w) := by
  obtain ⟨base, cap, rfl, hcap, hmax, hrd⟩ := hs
  unfold maxLen at hmax
  refine enter (args := [.slice base l.length cap, .func (.func fid) first cp]) (n := 19) Try.func55 rfl rfl rfl ?_
  repeat(first|refine QV QP ?_|refine QZ ?_|refine qcT rfl ?_|refine qcF rfl ?_|refine E_blockX ?_|refine E_blockO rfl ?_|refine QV QL ?_|refine QV QlT ?_|refine QV QlF ?_|refine QV QaA ?_)
  refine T_loop (ι := Nat) (fun k => k ≤ l.length ∧ ∀ j (hj : j < l.length), j < k → p l[j] = false) (fun k => [(0, .slice base l.length cap), (1, .func (.func fid) first cp), (7, .int .i64 l.length), (8, .int .i64 (k : Int))]) (fun _ => []) (fun k => l.length - k) 0 ⟨by omega, fun j hj h => by omega⟩ (by repeat' (first | exact True.intro | refine And.intro rfl ?_)) rfl ?_
  rintro k ⟨h1, h2⟩
  by_cases c2 : k < l.length
  · obtain ⟨b, off, rfl, hr⟩ := hrd (by omega)
    have hat := at_el (L := ([] : List Own)) SymS_len hr c2
    have hcl := hp l[k] (List.getElem_mem c2)
    by_cases c3 : p l[k] = true
    · rw [idxF_some c2 c3 h2]
      rw [c3] at hcl
      clear hp h2 hrd
      repeat(first|refine QV QP ?_|refine QZ ?_|refine qcT rfl ?_|refine qcF rfl ?_|refine E_blockX ?_|refine E_blockO rfl ?_|refine QV (rr_idxc Und.eq TyC.ty rfl rfl c2) ?_|refine QV (rr_loadN TyC.ty rfl rfl hat) ?_|refine QV QL ?_|refine QV QlT ?_|refine QV QlF ?_|refine QV QaA ?_)
      refine TL_call (he1c hen rfl rfl) (fun w hm => hcl w hm.below) rfl rfl rfl ?_
      intro _ _
      repeat(first|refine QV QP ?_|refine QZ ?_|refine qcT rfl ?_|refine qcF rfl ?_|refine E_blockX ?_|refine E_blockO rfl ?_|refine QV QL ?_|refine QV QlT ?_|refine QV QlF ?_|refine QV QaA ?_)
      exact E_ret1 rfl rfl fun w hm => hm.ret
    · have c3' : p l[k] = false := by simpa using c3
      rw [c3'] at hcl
      clear hp hrd c3
      repeat(first|refine QV QP ?_|refine QZ ?_|refine qcT rfl ?_|refine qcF rfl ?_|refine E_blockX ?_|refine E_blockO rfl ?_|refine QV (rr_idxc Und.eq TyC.ty rfl rfl c2) ?_|refine QV (rr_loadN TyC.ty rfl rfl hat) ?_|refine QV QL ?_|refine QV QlT ?_|refine QV QlF ?_|refine QV QaA ?_)
      refine TL_call (he1c hen rfl rfl) (fun w hm => hcl w hm.below) rfl rfl rfl ?_
      intro _ _
      repeat(first|refine QV QP ?_|refine QZ ?_|refine qcT rfl ?_|refine qcF rfl ?_|refine E_blockX ?_|refine E_blockO rfl ?_|refine QV QL ?_|refine QV QlT ?_|refine QV QlF ?_|refine QV QaA ?_)
      exact E_round (k + 1) ⟨by omega, fun j hj h => if e : j < k then h2 j hj e else (by obtain rfl : j = k := (by omega); exact c3')⟩ (by show l.length - (k + 1) < l.length - k; omega) (by repeat' (first | exact True.intro | refine And.intro rfl ?_)) rfl
  · rw [idxF_none fun j hj => h2 j hj (by omega)]
    clear hp h2 hrd
    repeat(first|refine QV QP ?_|refine QZ ?_|refine qcT rfl ?_|refine qcF rfl ?_|refine E_blockX ?_|refine E_blockO rfl ?_|refine QV QL ?_|refine QV QlT ?_|refine QV QlF ?_|refine QV QaA ?_)
    exact E_ret1 rfl rfl fun w hm => hm.ret
theorem containsFuncSymS_calls (v : Value) (l : List Sym) (w : World) (hs : Sl w v l.length (l.flatMap symC)) (fid : FuncId) (first cp : Array Value) (p : Sym → Bool) (hen : Enters Try.prog fid)
    (hp : ∀ a ∈ l, ∀ w', Gr w w' → Calls Try.prog fid (first ++ #[(.agg (symC a).toArray)] ++ cp) w' (Meets (ret (.bool (p a))) w')) :
    Calls Try.prog 37 #[v, .func (.func fid) first cp] w (Meets (ret (.bool (l.any p))) w) := by
  refine enter (args := [v, .func (.func fid) first cp]) (n := 9) Try.func37 rfl rfl rfl ?_
  have hh := fun w' (hg : Gr w w') => indexFuncSymS_calls v l w' (hs.gr hg) fid first cp p hen fun a ha w'' hg' => hp a ha w'' (hg.trans hg')
  have hr := idxF_range p l
  rw [← idxF_any p l]
  generalize idxF p l = r at *
  repeat(first|refine QV QP ?_|refine QZ ?_|refine QV QhT ?_|refine QV QhF ?_)
  refine TL_call (he2 EntersC.en rfl rfl rfl) (fun w hm => hh _ hm.below) rfl rfl rfl ?_
  intro _ _
  repeat(first|refine QV QP ?_|refine QZ ?_|refine QV (rr_geq rfl rfl rfl) ?_|refine QV QhT ?_|refine QV QhF ?_)
  exact E_ret1 rfl rfl fun w hm => hm.ret
end Go.Proofs.Ytomkjjpdnmcnnaa.eng

/- Gram -/
namespace Go.Proofs.Ytomkjjpdnmcnnaa.eng
open Go.RowKit kit mix gramL
theorem right_calls (t n : Int) (vp : Value) (x : Sym) (w : World) : Calls Try.prog 39 #[graV t n vp, .agg (symC x).toArray] w (Meets (ret (.bool (right t n x))) w) := by
  obtain ⟨k, q⟩ := x
  refine enter (args := [graV t n vp, .agg (symC (k, q)).toArray]) (n := 31) Try.func39 rfl rfl rfl ?_
  refine T_seq (T_region (TL_box rfl rfl rfl fun g0 => TL_box rfl rfl rfl fun g1 => ?_))
  repeat' (first
    | refine QV QP ?_
    | refine QZ ?_
    | refine qcT rfl ?_
    | refine qcF rfl ?_
    | refine qs rfl rfl rfl rfl rfl rfl ?_
    | (((try refine qg rfl rfl rfl ?_); first | refine QV QP ?_ | refine QV (rr_load1 TyC.ty rfl (at_blk (i := 0) rfl rfl)) ?_ | refine QV (rr_load1 TyC.ty rfl (at_blk (i := 1) rfl rfl)) ?_ | refine QV QA ?_ | refine QV QhT ?_ | refine QV QhF ?_ | refine QV QeT ?_ | refine QV QeF ?_ | refine QV QlT ?_ | refine QV QlF ?_))
    | refine TL_gsplitv (rr_lss rfl rfl rfl) rfl rfl rfl rfl rfl (fun h => ?_) (fun h => ?_)
    | refine TL_split (rr_geq rfl rfl rfl) rfl rfl rfl (fun h => ?_) (fun h => ?_)
    | refine TL_split (rr_eql rfl rfl rfl) rfl rfl rfl (fun h => ?_) (fun h => ?_)
    | ((fail_if_success (refine T_condT rfl ?_)); (fail_if_success (refine T_condF rfl ?_)); refine T_condS rfl (fun h => ?_) (fun h => ?_))
    | ((fail_if_success (refine TL_isT rfl rfl rfl ?_)); (fail_if_success (refine TL_isF rfl rfl rfl ?_)); refine TL_gsplit rfl rfl rfl (fun h => ?_) (fun h => ?_)))
  all_goals (refine E_ret1e rfl rfl ?_; congr 1; unfold right; dsimp only at *; repeat (first | rw [if_pos (by omega)] | rw [if_neg (by omega)] | rw [decide_eq_true (by assumption)] | rw [decide_eq_false (by assumption)]); try rfl)
/-- Check's own question -/
theorem check1_calls (t n : Int) (vp : Value) (x : Sym) (g : Nat) (w : World) (hg : w.heap[g]? = some (.cells (graV t n vp).cells 24 (0, 0))) :
    Calls Try.prog 38 #[.agg (symC x).toArray, .pointer (some ⟨g, 0, none⟩)] w (Meets (ret (.bool (!right t n x))) w) := by
  have hcell : ∀ (L : List Own) (j : Nat) (v : Value), ([.int .i64 t, .int .i64 n, vp] : List Value)[j]? = some v → At w L ⟨g, 0 + j, none⟩ v := fun L j v hj => at_old (by
    rw [cell_of_row w g (0 + j) _ _ _ hg, Nat.zero_add]
    show (#[.int .i64 t, .int .i64 n, vp] : Array Value)[j]? = some v
    simpa using hj)
  have hr := right_calls t n vp x
  refine enter (args := [.agg (symC x).toArray, .pointer (some ⟨g, 0, none⟩)]) (n := 8) Try.func38 rfl rfl rfl ?_
  refine T_seq (T_region (TL_box rfl rfl rfl fun g0 => ?_))
  repeat(first|refine QV QP ?_|refine QZ ?_|refine QV (rr_loadN TyC.ty rfl rfl (hcell _)) ?_|refine QV (rr_loadB (i := 0) TyC.ty rfl rfl rfl) ?_|refine QV (rr_not rfl rfl) ?_)
  refine TL_call (he2 EntersC.en rfl rfl rfl) (fun w hm => hr w) rfl rfl rfl ?_
  intro _ _
  repeat(first|refine QV QP ?_|refine QZ ?_|refine QV (rr_not rfl rfl) ?_)
  exact E_ret1 rfl rfl fun w hm => hm.ret
theorem prodsE_drop {t n : Int} {l : List gramL.Prod} {k : Nat} (h : k < l.length) (h0 : prodE t n l[k] = 0) : prodsE t n (l.drop k) = prodsE t n (l.drop (k + 1)) := by
  rw [List.drop_eq_getElem_cons h, prodsE, if_neg (by simp [h0])]
theorem prodsE_stop {t n : Int} {l : List gramL.Prod} {k : Nat} (h : k < l.length) (h0 : prodE t n l[k] ≠ 0) : prodsE t n (l.drop k) = prodE t n l[k] := by
  rw [List.drop_eq_getElem_cons h, prodsE, if_pos h0]
set_option maxHeartbeats 2000000 in
theorem checkG_calls (v : Value) (g : Gram) (w : World) (h : GraR (fun k => k < w.heap.size) w v g) :
    Calls Try.prog 18 #[v] w (Meets (ret (.int .i64 (checkG g))) w) := by
  obtain ⟨vp, rfl, h1, _⟩ := h
  obtain ⟨bp, cp, rfl, hcp, hmp, hrp⟩ := h1
  unfold maxLen at hmp
  obtain ⟨t, n, prods⟩ := g
  dsimp only at *
  refine enter (args := [graV t n (.slice bp prods.length cp)]) (n := 57) Try.func18 rfl rfl rfl ?_
  refine T_seq (T_region (TL_box rfl rfl rfl fun g0 => ?_))
  unfold checkG
  dsimp only
  by_cases c1 : t < 0
  · rw [if_pos c1]
    repeat(first|refine QV QP ?_|refine QZ ?_|refine qcT rfl ?_|refine qcF rfl ?_|refine E_blockX ?_|refine E_blockO rfl ?_|refine qs rfl rfl rfl rfl rfl rfl ?_|((try refine qg rfl rfl rfl ?_);first|refine QV QP ?_|refine QV (rr_load1 TyC.ty rfl (at_blk (i := 0) rfl rfl)) ?_|refine QV QL ?_|refine QV QA ?_|refine QV QlT ?_|refine QV QlF ?_|refine QV QgT ?_|refine QV QgF ?_|refine QV QaA ?_|refine QV QhT ?_|refine QV QhF ?_))
    exact E_ret1 rfl rfl fun w hm => hm.ret
  rw [if_neg c1]
  by_cases c2 : 30 < t
  · rw [if_pos c2]
    repeat(first|refine QV QP ?_|refine QZ ?_|refine qcT rfl ?_|refine qcF rfl ?_|refine E_blockX ?_|refine E_blockO rfl ?_|refine qs rfl rfl rfl rfl rfl rfl ?_|((try refine qg rfl rfl rfl ?_);first|refine QV QP ?_|refine QV (rr_load1 TyC.ty rfl (at_blk (i := 0) rfl rfl)) ?_|refine QV QL ?_|refine QV QA ?_|refine QV QlT ?_|refine QV QlF ?_|refine QV QgT ?_|refine QV QgF ?_|refine QV QaA ?_|refine QV QhT ?_|refine QV QhF ?_))
    exact E_ret1 rfl rfl fun w hm => hm.ret
  rw [if_neg c2]
  by_cases c3 : n < 1
  · rw [if_pos c3]
    repeat(first|refine QV QP ?_|refine QZ ?_|refine qcT rfl ?_|refine qcF rfl ?_|refine E_blockX ?_|refine E_blockO rfl ?_|refine qs rfl rfl rfl rfl rfl rfl ?_|((try refine qg rfl rfl rfl ?_);first|refine QV QP ?_|refine QV (rr_load1 TyC.ty rfl (at_blk (i := 0) rfl rfl)) ?_|refine QV QL ?_|refine QV QA ?_|refine QV QlT ?_|refine QV QlF ?_|refine QV QgT ?_|refine QV QgF ?_|refine QV QaA ?_|refine QV QhT ?_|refine QV QhF ?_))
    exact E_ret1 rfl rfl fun w hm => hm.ret
  rw [if_neg c3]
  by_cases c4 : 20 < n
  · rw [if_pos c4]
    repeat(first|refine QV QP ?_|refine QZ ?_|refine qcT rfl ?_|refine qcF rfl ?_|refine E_blockX ?_|refine E_blockO rfl ?_|refine qs rfl rfl rfl rfl rfl rfl ?_|((try refine qg rfl rfl rfl ?_);first|refine QV QP ?_|refine QV (rr_load1 TyC.ty rfl (at_blk (i := 0) rfl rfl)) ?_|refine QV QL ?_|refine QV QA ?_|refine QV QlT ?_|refine QV QlF ?_|refine QV QgT ?_|refine QV QgF ?_|refine QV QaA ?_|refine QV QhT ?_|refine QV QhF ?_))
    exact E_ret1 rfl rfl fun w hm => hm.ret
  rw [if_neg c4]
  by_cases c5 : 40 < prods.length
  · rw [if_pos c5]
    repeat(first|refine QV QP ?_|refine QZ ?_|refine qcT rfl ?_|refine qcF rfl ?_|refine E_blockX ?_|refine E_blockO rfl ?_|refine qs rfl rfl rfl rfl rfl rfl ?_|((try refine qg rfl rfl rfl ?_);first|refine QV QP ?_|refine QV (rr_load1 TyC.ty rfl (at_blk (i := 0) rfl rfl)) ?_|refine QV QL ?_|refine QV QA ?_|refine QV QlT ?_|refine QV QlF ?_|refine QV QgT ?_|refine QV QgF ?_|refine QV QaA ?_|refine QV QhT ?_|refine QV QhF ?_))
    exact E_ret1 rfl rfl fun w hm => hm.ret
  rw [if_neg c5]
  repeat(first|refine QV QP ?_|refine QZ ?_|refine qcT rfl ?_|refine qcF rfl ?_|refine E_blockX ?_|refine E_blockO rfl ?_|refine qs rfl rfl rfl rfl rfl rfl ?_|((try refine qg rfl rfl rfl ?_);first|refine QV QP ?_|refine QV (rr_load1 TyC.ty rfl (at_blk (i := 0) rfl rfl)) ?_|refine QV QL ?_|refine QV QA ?_|refine QV QlT ?_|refine QV QlF ?_|refine QV QgT ?_|refine QV QgF ?_|refine QV QaA ?_|refine QV QhT ?_|refine QV QhF ?_))
  refine T_loop (ι := Nat) (fun k => k ≤ prods.length ∧ prodsE t n prods = prodsE t n (prods.drop k)) (fun k => [(1, .pointer (some ⟨g0, 0, none⟩)), (30, .slice bp prods.length cp), (31, .int .i64 prods.length), (32, .int .i64 (k : Int))]) (fun _ => [blkO g0 (graV t n (.slice bp prods.length cp)).cells 24]) (fun k => prods.length - k) 0 ⟨Nat.zero_le _, rfl⟩ (by repeat' (first | exact True.intro | refine And.intro rfl ?_)) rfl ?_
  rintro k ⟨i1, i2⟩
  rw [i2]
  clear i2
  by_cases c6 : k < prods.length
  · obtain ⟨b, off, rfl, _, hr⟩ := hrp (by omega)
    obtain ⟨bb, cb, q1, q2, q3⟩ := prod_at hr c6
    have hstop := prodsE_stop (t := t) (n := n) c6
    have hdrop := prodsE_drop (t := t) (n := n) c6
    have hat : ∀ (L : List Own) (j : Nat) (v : Value), ([.int .i64 prods[k].1, .slice bb prods[k].2.length cb] : List Value)[j]? = some v → At w L ⟨b, off + k * 2 + j, none⟩ v := fun L j v hj => at_rd q1 hj
    clear hr hrp q1
    generalize prods[k] = p at *
    obtain ⟨hd, body⟩ := p
    have hco := fun w' (hg : Gr w w') (hb : w'.heap[g0]? = some (.cells (graV t n (.slice (some ⟨b, off, none⟩) prods.length cp)).cells 24 (0, 0))) => containsFuncSymS_calls (.slice bb body.length cb) body w' ((q3.flat (by decide)).gr hg) 38 #[] #[.pointer (some ⟨g0, 0, none⟩)] (fun x => !right t n x) EntersC.en (fun a _ w'' hg' => check1_calls t n _ a g0 w'' (by rw [hg'.block g0 (Array.getElem?_eq_some_iff.1 hb).1]; exact hb))
    dsimp only at *
    repeat(first|refine QV QP ?_|refine QZ ?_|refine qcT rfl ?_|refine qcF rfl ?_|refine E_blockX ?_|refine E_blockO rfl ?_|refine qs rfl rfl rfl rfl rfl rfl ?_|((try refine qg rfl rfl rfl ?_);first|refine QV QP ?_|refine QV (rr_idxc Und.eq TyC.ty rfl rfl c6) ?_|refine QV (rr_loadN TyC.ty rfl rfl (hat _)) ?_|refine QV QL ?_|refine QV QA ?_|refine QV QlT ?_|refine QV QlF ?_|refine QV QgT ?_|refine QV QgF ?_|refine QV QaA ?_|refine QV QhT ?_|refine QV QhF ?_))
    clear hat
    refine TL_new rfl fun g4 => ?_
    refine TL_storeB (i := 1) rfl rfl rfl rfl rfl rfl ?_
    conv=>arg 8;simp only[zA,zB,zC,zD,zE,zF,zG,zH,zI,rowS,ret,id_eq]
    unfold prodE at hstop hdrop
    dsimp only at hstop hdrop
    by_cases c7 : 8 < body.length
    · rw [if_pos c7] at hstop
      rw [hstop (by decide)]
      repeat(first|refine QV QP ?_|refine QZ ?_|refine qcT rfl ?_|refine qcF rfl ?_|refine E_blockX ?_|refine E_blockO rfl ?_|refine qs rfl rfl rfl rfl rfl rfl ?_|((try refine qg rfl rfl rfl ?_);first|refine QV QP ?_|refine QV (rr_load1 TyC.ty rfl (at_blk (i := 1) rfl rfl)) ?_|refine QV QL ?_|refine QV QA ?_|refine QV QlT ?_|refine QV QlF ?_|refine QV QgT ?_|refine QV QgF ?_|refine QV QaA ?_|refine QV QhT ?_|refine QV QhF ?_))
      exact E_ret1 rfl rfl fun w hm => hm.ret
    rw [if_neg c7] at hstop hdrop
    by_cases c8 : hd < 0
    · rw [if_pos c8] at hstop
      rw [hstop (by decide)]
      repeat(first|refine QV QP ?_|refine QZ ?_|refine qcT rfl ?_|refine qcF rfl ?_|refine E_blockX ?_|refine E_blockO rfl ?_|refine qs rfl rfl rfl rfl rfl rfl ?_|((try refine qg rfl rfl rfl ?_);first|refine QV QP ?_|refine QV (rr_load1 TyC.ty rfl (at_blk (i := 1) rfl rfl)) ?_|refine QV QL ?_|refine QV QA ?_|refine QV QlT ?_|refine QV QlF ?_|refine QV QgT ?_|refine QV QgF ?_|refine QV QaA ?_|refine QV QhT ?_|refine QV QhF ?_))
      exact E_ret1 rfl rfl fun w hm => hm.ret
    rw [if_neg c8] at hstop hdrop
    by_cases c9 : n ≤ hd
    · rw [if_pos c9] at hstop
      rw [hstop (by decide)]
      repeat(first|refine QV QP ?_|refine QZ ?_|refine qcT rfl ?_|refine qcF rfl ?_|refine E_blockX ?_|refine E_blockO rfl ?_|refine qs rfl rfl rfl rfl rfl rfl ?_|((try refine qg rfl rfl rfl ?_);first|refine QV QP ?_|refine QV (rr_load1 TyC.ty rfl (at_blk (i := 1) rfl rfl)) ?_|refine QV (rr_load1 TyC.ty rfl (at_blk (i := 0) rfl rfl)) ?_|refine QV QL ?_|refine QV QA ?_|refine QV QlT ?_|refine QV QlF ?_|refine QV QgT ?_|refine QV QgF ?_|refine QV QaA ?_|refine QV QhT ?_|refine QV QhF ?_))
      exact E_ret1 rfl rfl fun w hm => hm.ret
    rw [if_neg c9] at hstop hdrop
    by_cases c10 : body.any (fun x => !right t n x) = true
    · rw [if_pos c10] at hstop
      rw [hstop (by decide)]
      rw [c10] at hco
      repeat(first|refine QV QP ?_|refine QZ ?_|refine qcT rfl ?_|refine qcF rfl ?_|refine E_blockX ?_|refine E_blockO rfl ?_|refine qs rfl rfl rfl rfl rfl rfl ?_|((try refine qg rfl rfl rfl ?_);first|refine QV QP ?_|refine QV (rr_load1 TyC.ty rfl (at_blk (i := 1) rfl rfl)) ?_|refine QV (rr_load1 TyC.ty rfl (at_blk (i := 0) rfl rfl)) ?_|refine QV QL ?_|refine QV QA ?_|refine QV QlT ?_|refine QV QlF ?_|refine QV QgT ?_|refine QV QgF ?_|refine QV QaA ?_|refine QV (rr_func rfl rfl) ?_|refine QV QhT ?_|refine QV QhF ?_))
      refine TL_gcall (he2 EntersC.en rfl rfl rfl) (fun w hm => hco _ hm.below (hm.get (i := 0) rfl)) rfl rfl rfl rfl rfl ?_
      intro _ _
      repeat(first|refine QV QP ?_|refine QZ ?_|refine qcT rfl ?_|refine qcF rfl ?_|refine E_blockX ?_|refine E_blockO rfl ?_|refine qs rfl rfl rfl rfl rfl rfl ?_|((try refine qg rfl rfl rfl ?_);first|refine QV QP ?_|refine QV QL ?_|refine QV QA ?_|refine QV QlT ?_|refine QV QlF ?_|refine QV QgT ?_|refine QV QgF ?_|refine QV QaA ?_|refine QV QhT ?_|refine QV QhF ?_))
      exact E_ret1 rfl rfl fun w hm => hm.ret
    · have c10' : body.any (fun x => !right t n x) = false := by simpa using c10
      rw [if_neg c10] at hdrop
      rw [c10'] at hco
      repeat(first|refine QV QP ?_|refine QZ ?_|refine qcT rfl ?_|refine qcF rfl ?_|refine E_blockX ?_|refine E_blockO rfl ?_|refine qs rfl rfl rfl rfl rfl rfl ?_|((try refine qg rfl rfl rfl ?_);first|refine QV QP ?_|refine QV (rr_load1 TyC.ty rfl (at_blk (i := 1) rfl rfl)) ?_|refine QV (rr_load1 TyC.ty rfl (at_blk (i := 0) rfl rfl)) ?_|refine QV QL ?_|refine QV QA ?_|refine QV QlT ?_|refine QV QlF ?_|refine QV QgT ?_|refine QV QgF ?_|refine QV QaA ?_|refine QV (rr_func rfl rfl) ?_|refine QV QhT ?_|refine QV QhF ?_))
      refine TL_gcall (he2 EntersC.en rfl rfl rfl) (fun w hm => hco _ hm.below (hm.get (i := 0) rfl)) rfl rfl rfl rfl rfl ?_
      intro _ _
      repeat(first|refine QV QP ?_|refine QZ ?_|refine qcT rfl ?_|refine qcF rfl ?_|refine E_blockX ?_|refine E_blockO rfl ?_|refine qs rfl rfl rfl rfl rfl rfl ?_|((try refine qg rfl rfl rfl ?_);first|refine QV QP ?_|refine QV QL ?_|refine QV QA ?_|refine QV QlT ?_|refine QV QlF ?_|refine QV QgT ?_|refine QV QgF ?_|refine QV QaA ?_|refine QV QhT ?_|refine QV QhF ?_))
      refine E_pick [0] (by decide) rfl ?_
      exact E_round (k + 1) ⟨by omega, hdrop rfl⟩ (by show prods.length - (k + 1) < prods.length - k; omega) (by repeat' (first | exact True.intro | refine And.intro rfl ?_)) rfl
  · rw [List.drop_of_length_le (by omega)]
    repeat(first|refine QV QP ?_|refine QZ ?_|refine qcT rfl ?_|refine qcF rfl ?_|refine E_blockX ?_|refine E_blockO rfl ?_|refine qs rfl rfl rfl rfl rfl rfl ?_|((try refine qg rfl rfl rfl ?_);first|refine QV QP ?_|refine QV QL ?_|refine QV QA ?_|refine QV QlT ?_|refine QV QlF ?_|refine QV QgT ?_|refine QV QgF ?_|refine QV QaA ?_|refine QV QhT ?_|refine QV QhF ?_))
    exact E_ret1 rfl rfl fun w hm => hm.ret
end Go.Proofs.Ytomkjjpdnmcnnaa.eng

/- FactsL -/
namespace Go.Proofs.Ytomkjjpdnmcnnaa.factsL
open gramL
def markF (l : List Bool) (i : Nat) (b : Bool) : List Bool × Bool := if b = true ∧ l.getD i false = false then (l.set i true, true) else (l, false)
/-- are all of a body's nonterminals so? -/
def allF (l : List Bool) (body : List Sym) (terms : Bool) : Bool := body.all fun x => if x.1 = 1 then terms else if x.1 = 2 then l.getD x.2.toNat false else true
def addF (l : List Nat) (i : Nat) (b : Nat) : List Nat × Bool := (l.set i (l.getD i 0 ||| b), !decide ((l.getD i 0 ||| b) = l.getD i 0))
/-- what some symbols begin with, something standing behind -/
def beginGo (E : List Bool) (F : List Nat) (behind : Nat) : List Sym → Nat → Nat
  | [], out => out ||| behind
  | x :: r, out => if x.1 = 1 then out ||| 2 ^ x.2.toNat else if E.getD x.2.toNat false = true then beginGo E F behind r (out ||| F.getD x.2.toNat 0) else out ||| F.getD x.2.toNat 0
def beginF (E : List Bool) (F : List Nat) (body : List Sym) (behind : Nat) : Nat := beginGo E F behind body 0
theorem markF_len (l : List Bool) (i : Nat) (b : Bool) : (markF l i b).1.length = l.length := by
  unfold markF; split <;> simp
theorem addF_len (l : List Nat) (i : Nat) (b : Nat) : (addF l i b).1.length = l.length := by
  simp [addF]
structure FS where
  E : List Bool
  R : List Bool
  M : List Bool
  more : Bool
def stepR (h : Nat) (x : Sym) (R : List Bool) (more : Bool) : List Bool × Bool := if x.1 = 2 then ((markF R x.2.toNat (R.getD h false)).1, (markF R x.2.toNat (R.getD h false)).2 || more) else (R, more)
def roundR (h : Nat) : List Sym → List Bool → Bool → List Bool × Bool
  | [], R, more => (R, more)
  | x :: r, R, more => roundR h r (stepR h x R more).1 (stepR h x R more).2
def roundP (p : gramL.Prod) (s : FS) : FS :=
  let h := p.1.toNat
  let a := markF s.E h (allF s.E p.2 false)
  let b := markF s.M h (allF s.M p.2 true)
  let c := roundR h p.2 s.R (b.2 || (a.2 || s.more))
  ⟨a.1, c.1, b.1, c.2⟩
def roundL : List gramL.Prod → FS → FS
  | [], s => s
  | p :: r, s => roundL r (roundP p s)
theorem stepR_len (h : Nat) (x : Sym) (R : List Bool) (more : Bool) : (stepR h x R more).1.length = R.length := by
  unfold stepR; split
  · exact markF_len _ _ _
  · rfl
theorem roundR_len (h : Nat) : ∀ (body : List Sym) (R : List Bool) (more : Bool), (roundR h body R more).1.length = R.length
  | [], _, _ => rfl
  | x :: r, R, more => by rw [roundR, roundR_len h r, stepR_len]
/-- how many are true -/
def trues (l : List Bool) : Nat := l.countP id
theorem markF_trues {l : List Bool} {i : Nat} {b : Bool} (hi : i < l.length) : trues (markF l i b).1 = trues l + (if (markF l i b).2 = true then 1 else 0) := by
  unfold markF
  split
  · rename_i c
    have h0 : l[i] = false := by
      have := c.2
      rw [List.getD_eq_getElem?_getD, List.getElem?_eq_getElem hi] at this
      simpa using this
    unfold trues
    rw [List.countP_set hi]
    simp [h0]
  · simp
end Go.Proofs.Ytomkjjpdnmcnnaa.factsL

/- FactsA -/
namespace Go.Proofs.Ytomkjjpdnmcnnaa.eng
open Go.RowKit kit mix gramL factsL
def bitV (n : Nat) : Value := .int .u64 (n : Int)
theorem bool_at {l : List Bool} {i : Nat} (hi : i < l.length) : (l.map Value.bool)[i]? = some (.bool (l.getD i false)) := by
  simp [hi]
theorem bit_at {l : List Nat} {i : Nat} (hi : i < l.length) : (l.map bitV)[i]? = some (bitV (l.getD i 0)) := by
  simp [hi]
set_option maxHeartbeats 1000000 in
theorem mark_calls (g cap : Nat) (l : List Bool) (i : Nat) (b : Bool) (w : World) (B : Base) (hi : i < l.length) (hm : Mem B [rowO 4 1 (.slice (some ⟨g, 0, none⟩) l.length cap) l.length (l.map .bool)] w) :
    Calls Try.prog 40 #[.slice (some ⟨g, 0, none⟩) l.length cap, .int .i64 (i : Int), .bool b] w (MeetsB ⟨fun (_ : Unit) => True, fun _ => .bool (markF l i b).2, fun _ => [rowO 4 1 (.slice (some ⟨g, 0, none⟩) l.length cap) l.length ((markF l i b).1.map .bool)]⟩ B) := by
  have hb := bool_at hi
  refine enterB hm (args := [.slice (some ⟨g, 0, none⟩) l.length cap, .int .i64 (i : Int), .bool b]) (n := 18) Try.func40 rfl rfl rfl ?_
  unfold markF
  cases b
  · rw [if_neg (by simp)]
    repeat(first|refine QV QP ?_|refine QZ ?_|refine qcT rfl ?_|refine qcF rfl ?_|refine qs rfl rfl rfl rfl rfl rfl ?_|((try refine qg rfl rfl rfl ?_);first|refine QV QP ?_|refine QV (rr_not rfl rfl) ?_))
    exact E_ret1 rfl rfl fun w hm => hm.meetsB (S := ⟨fun (_ : Unit) => True, fun _ => .bool false, fun _ => [rowO 4 1 (.slice (some ⟨g, 0, none⟩) l.length cap) l.length (l.map .bool)]⟩) () trivial [0] (by decide) rfl
  · generalize hx : l.getD i false = x at *
    cases x
    · rw [if_pos ⟨rfl, rfl⟩]
      repeat(first|refine QV QP ?_|refine QZ ?_|refine qcT rfl ?_|refine qcF rfl ?_|refine qs rfl rfl rfl rfl rfl rfl ?_|((try refine qg rfl rfl rfl ?_);first|refine QV QP ?_|refine QV (rr_idx1 Und.eq TyC.ty rfl rfl hi) ?_|refine QV (rr_load1 TyC.ty rfl (at_row (i := 0) rfl (by rw [Nat.zero_add]; exact hb))) ?_|refine QV (rr_not rfl rfl) ?_))
      refine TL_storeRow (i := 0) TyC.ty rfl rfl rfl rfl rfl rfl (by simpa using hi) ?_
      repeat(first|refine QV QP ?_|refine QZ ?_|refine qcT rfl ?_|refine qcF rfl ?_|refine qs rfl rfl rfl rfl rfl rfl ?_|((try refine qg rfl rfl rfl ?_);first|refine QV QP ?_|refine QV (rr_not rfl rfl) ?_))
      exact E_ret1 rfl rfl fun w hm => hm.meetsB (S := ⟨fun (_ : Unit) => True, fun _ => .bool true, fun _ => [rowO 4 1 (.slice (some ⟨g, 0, none⟩) l.length cap) l.length ((l.set i true).map .bool)]⟩) () trivial [0] (by decide) (by simp [List.map_set])
    · rw [if_neg (by simp)]
      repeat(first|refine QV QP ?_|refine QZ ?_|refine qcT rfl ?_|refine qcF rfl ?_|refine qs rfl rfl rfl rfl rfl rfl ?_|((try refine qg rfl rfl rfl ?_);first|refine QV QP ?_|refine QV (rr_idx1 Und.eq TyC.ty rfl rfl hi) ?_|refine QV (rr_load1 TyC.ty rfl (at_row (i := 0) rfl (by rw [Nat.zero_add]; exact hb))) ?_|refine QV (rr_not rfl rfl) ?_))
      exact E_ret1 rfl rfl fun w hm => hm.meetsB (S := ⟨fun (_ : Unit) => True, fun _ => .bool false, fun _ => [rowO 4 1 (.slice (some ⟨g, 0, none⟩) l.length cap) l.length (l.map .bool)]⟩) () trivial [0] (by decide) rfl
set_option maxHeartbeats 2000000 in
theorem allB_calls (v vb : Value) (l : List Bool) (body : List Sym) (terms : Bool) (w : World) (hs : Sl w v l.length (l.map .bool)) (hs2 : Sl w vb body.length (body.flatMap symC)) (hok : ∀ x ∈ body, x.1 = 2 → 0 ≤ x.2 ∧ x.2 < l.length) :
    Calls Try.prog 41 #[v, vb, .bool terms] w (Meets (ret (.bool (allF l body terms))) w) := by
  obtain ⟨bv, cv, rfl, h1, h2, h3⟩ := hs
  obtain ⟨bb, cb, rfl, h4, h5, h6⟩ := hs2
  unfold maxLen at h2 h5
  refine enter (args := [.slice bv l.length cv, .slice bb body.length cb, .bool terms]) (n := 36) Try.func41 rfl rfl rfl ?_
  repeat(first|refine QV QP ?_|refine QZ ?_|refine qcT rfl ?_|refine qcF rfl ?_|refine E_blockX ?_|refine E_blockO rfl ?_|refine qs rfl rfl rfl rfl rfl rfl ?_|((try refine qg rfl rfl rfl ?_);first|refine QV QP ?_|refine QV QL ?_|refine QV QA ?_|refine QV QlT ?_|refine QV QlF ?_|refine QV QeT ?_|refine QV QeF ?_|refine QV QaA ?_|refine QV (rr_not rfl rfl) ?_))
  refine T_loop (ι := Nat) (fun k => k ≤ body.length ∧ allF l body terms = allF l (body.drop k) terms) (fun k => [(0, .slice bv l.length cv), (2, .bool terms), (9, .slice bb body.length cb), (10, .int .i64 body.length), (11, .int .i64 (k : Int))]) (fun _ => []) (fun k => body.length - k) 0 ⟨Nat.zero_le _, rfl⟩ (by repeat' (first | exact True.intro | refine And.intro rfl ?_)) rfl ?_
  rintro k ⟨i1, i2⟩
  rw [i2]
  clear i2
  by_cases c6 : k < body.length
  · obtain ⟨b, off, rfl, hr⟩ := h6 (by omega)
    have hat := at_el (L := ([] : List Own)) SymS_len hr c6
    have hokx := hok body[k] (List.getElem_mem c6)
    have hd : allF l (body.drop k) terms = ((if body[k].1 = 1 then terms else if body[k].1 = 2 then l.getD body[k].2.toNat false else true) && allF l (body.drop (k + 1)) terms) := by
      rw [List.drop_eq_getElem_cons c6]; rfl
    rw [hd]
    clear hd h6 hok hr
    generalize body[k] = x at *
    obtain ⟨q, m⟩ := x
    dsimp only at *
    by_cases c1 : q = 1
    · rw [if_pos c1]
      cases terms
      · repeat(first|refine QV QP ?_|refine QZ ?_|refine qcT rfl ?_|refine qcF rfl ?_|refine E_blockX ?_|refine E_blockO rfl ?_|refine qs rfl rfl rfl rfl rfl rfl ?_|((try refine qg rfl rfl rfl ?_);first|refine QV QP ?_|refine QV (rr_idxc Und.eq TyC.ty rfl rfl c6) ?_|refine QV (rr_loadN TyC.ty rfl rfl hat) ?_|refine QV QL ?_|refine QV QA ?_|refine QV QlT ?_|refine QV QlF ?_|refine QV QeT ?_|refine QV QeF ?_|refine QV QaA ?_|refine QV (rr_not rfl rfl) ?_))
        refine TL_new rfl fun g8 => ?_
        refine TL_storeB (i := 0) rfl rfl rfl rfl rfl rfl ?_
        repeat(first|refine QV QP ?_|refine QZ ?_|refine qcT rfl ?_|refine qcF rfl ?_|refine E_blockX ?_|refine E_blockO rfl ?_|refine qs rfl rfl rfl rfl rfl rfl ?_|((try refine qg rfl rfl rfl ?_);first|refine QV QP ?_|refine QV (rr_load1 TyC.ty rfl (at_blk (i := 0) rfl rfl)) ?_|refine QV QL ?_|refine QV QA ?_|refine QV QlT ?_|refine QV QlF ?_|refine QV QeT ?_|refine QV QeF ?_|refine QV QaA ?_|refine QV (rr_not rfl rfl) ?_))
        exact E_ret1 rfl rfl fun w hm => hm.ret
      · repeat(first|refine QV QP ?_|refine QZ ?_|refine qcT rfl ?_|refine qcF rfl ?_|refine E_blockX ?_|refine E_blockO rfl ?_|refine qs rfl rfl rfl rfl rfl rfl ?_|((try refine qg rfl rfl rfl ?_);first|refine QV QP ?_|refine QV (rr_idxc Und.eq TyC.ty rfl rfl c6) ?_|refine QV (rr_loadN TyC.ty rfl rfl hat) ?_|refine QV QL ?_|refine QV QA ?_|refine QV QlT ?_|refine QV QlF ?_|refine QV QeT ?_|refine QV QeF ?_|refine QV QaA ?_|refine QV (rr_not rfl rfl) ?_))
        refine TL_new rfl fun g8 => ?_
        refine TL_storeB (i := 0) rfl rfl rfl rfl rfl rfl ?_
        repeat(first|refine QV QP ?_|refine QZ ?_|refine qcT rfl ?_|refine qcF rfl ?_|refine E_blockX ?_|refine E_blockO rfl ?_|refine qs rfl rfl rfl rfl rfl rfl ?_|((try refine qg rfl rfl rfl ?_);first|refine QV QP ?_|refine QV (rr_load1 TyC.ty rfl (at_blk (i := 0) rfl rfl)) ?_|refine QV QL ?_|refine QV QA ?_|refine QV QlT ?_|refine QV QlF ?_|refine QV QeT ?_|refine QV QeF ?_|refine QV QaA ?_|refine QV (rr_not rfl rfl) ?_))
        refine E_pick [] (by decide) rfl ?_
        exact E_round (k + 1) ⟨by omega, by simp⟩ (by show body.length - (k + 1) < body.length - k; omega) (by repeat' (first | exact True.intro | refine And.intro rfl ?_)) rfl
    · rw [if_neg c1]
      by_cases c2 : q = 2
      · rw [if_pos c2]
        obtain ⟨o1, o2⟩ := hokx c2
        obtain ⟨mm, rfl⟩ : ∃ mm : Nat, m = mm := ⟨m.toNat, by omega⟩
        have hmm : mm < l.length := by omega
        obtain ⟨b', off', rfl, hr'⟩ := h3 (by omega)
        rw [Int.toNat_natCast]
        have hcell := bool_at hmm
        generalize l.getD mm false = y at *
        cases y
        · repeat(first|refine QV QP ?_|refine QZ ?_|refine qcT rfl ?_|refine qcF rfl ?_|refine E_blockX ?_|refine E_blockO rfl ?_|refine qs rfl rfl rfl rfl rfl rfl ?_|((try refine qg rfl rfl rfl ?_);first|refine QV QP ?_|refine QV (rr_idxc Und.eq TyC.ty rfl rfl c6) ?_|refine QV (rr_loadN TyC.ty rfl rfl hat) ?_|refine QV QL ?_|refine QV QA ?_|refine QV QlT ?_|refine QV QlF ?_|refine QV QeT ?_|refine QV QeF ?_|refine QV QaA ?_|refine QV (rr_not rfl rfl) ?_))
          refine TL_new rfl fun g8 => ?_
          refine TL_storeB (i := 0) rfl rfl rfl rfl rfl rfl ?_
          repeat(first|refine QV QP ?_|refine QZ ?_|refine qcT rfl ?_|refine qcF rfl ?_|refine E_blockX ?_|refine E_blockO rfl ?_|refine qs rfl rfl rfl rfl rfl rfl ?_|((try refine qg rfl rfl rfl ?_);first|refine QV QP ?_|refine QV (rr_load1 TyC.ty rfl (at_blk (i := 0) rfl rfl)) ?_|refine QV (rr_idx1 Und.eq TyC.ty rfl rfl hmm) ?_|refine QV (rr_load1 TyC.ty rfl (at_rd hr' hcell)) ?_|refine QV QL ?_|refine QV QA ?_|refine QV QlT ?_|refine QV QlF ?_|refine QV QeT ?_|refine QV QeF ?_|refine QV QaA ?_|refine QV (rr_not rfl rfl) ?_))
          exact E_ret1 rfl rfl fun w hm => hm.ret
        · repeat(first|refine QV QP ?_|refine QZ ?_|refine qcT rfl ?_|refine qcF rfl ?_|refine E_blockX ?_|refine E_blockO rfl ?_|refine qs rfl rfl rfl rfl rfl rfl ?_|((try refine qg rfl rfl rfl ?_);first|refine QV QP ?_|refine QV (rr_idxc Und.eq TyC.ty rfl rfl c6) ?_|refine QV (rr_loadN TyC.ty rfl rfl hat) ?_|refine QV QL ?_|refine QV QA ?_|refine QV QlT ?_|refine QV QlF ?_|refine QV QeT ?_|refine QV QeF ?_|refine QV QaA ?_|refine QV (rr_not rfl rfl) ?_))
          refine TL_new rfl fun g8 => ?_
          refine TL_storeB (i := 0) rfl rfl rfl rfl rfl rfl ?_
          repeat(first|refine QV QP ?_|refine QZ ?_|refine qcT rfl ?_|refine qcF rfl ?_|refine E_blockX ?_|refine E_blockO rfl ?_|refine qs rfl rfl rfl rfl rfl rfl ?_|((try refine qg rfl rfl rfl ?_);first|refine QV QP ?_|refine QV (rr_load1 TyC.ty rfl (at_blk (i := 0) rfl rfl)) ?_|refine QV (rr_idx1 Und.eq TyC.ty rfl rfl hmm) ?_|refine QV (rr_load1 TyC.ty rfl (at_rd hr' hcell)) ?_|refine QV QL ?_|refine QV QA ?_|refine QV QlT ?_|refine QV QlF ?_|refine QV QeT ?_|refine QV QeF ?_|refine QV QaA ?_|refine QV (rr_not rfl rfl) ?_))
          refine E_pick [] (by decide) rfl ?_
          exact E_round (k + 1) ⟨by omega, by simp⟩ (by show body.length - (k + 1) < body.length - k; omega) (by repeat' (first | exact True.intro | refine And.intro rfl ?_)) rfl
      · rw [if_neg c2]
        repeat(first|refine QV QP ?_|refine QZ ?_|refine qcT rfl ?_|refine qcF rfl ?_|refine E_blockX ?_|refine E_blockO rfl ?_|refine qs rfl rfl rfl rfl rfl rfl ?_|((try refine qg rfl rfl rfl ?_);first|refine QV QP ?_|refine QV (rr_idxc Und.eq TyC.ty rfl rfl c6) ?_|refine QV (rr_loadN TyC.ty rfl rfl hat) ?_|refine QV QL ?_|refine QV QA ?_|refine QV QlT ?_|refine QV QlF ?_|refine QV QeT ?_|refine QV QeF ?_|refine QV QaA ?_|refine QV (rr_not rfl rfl) ?_))
        refine TL_new rfl fun g8 => ?_
        refine TL_storeB (i := 0) rfl rfl rfl rfl rfl rfl ?_
        repeat(first|refine QV QP ?_|refine QZ ?_|refine qcT rfl ?_|refine qcF rfl ?_|refine E_blockX ?_|refine E_blockO rfl ?_|refine qs rfl rfl rfl rfl rfl rfl ?_|((try refine qg rfl rfl rfl ?_);first|refine QV QP ?_|refine QV (rr_load1 TyC.ty rfl (at_blk (i := 0) rfl rfl)) ?_|refine QV QL ?_|refine QV QA ?_|refine QV QlT ?_|refine QV QlF ?_|refine QV QeT ?_|refine QV QeF ?_|refine QV QaA ?_|refine QV (rr_not rfl rfl) ?_))
        refine E_pick [] (by decide) rfl ?_
        exact E_round (k + 1) ⟨by omega, by simp⟩ (by show body.length - (k + 1) < body.length - k; omega) (by repeat' (first | exact True.intro | refine And.intro rfl ?_)) rfl
  · rw [List.drop_of_length_le (by omega)]
    repeat(first|refine QV QP ?_|refine QZ ?_|refine qcT rfl ?_|refine qcF rfl ?_|refine E_blockX ?_|refine E_blockO rfl ?_|refine qs rfl rfl rfl rfl rfl rfl ?_|((try refine qg rfl rfl rfl ?_);first|refine QV QP ?_|refine QV QL ?_|refine QV QA ?_|refine QV QlT ?_|refine QV QlF ?_|refine QV QeT ?_|refine QV QeF ?_|refine QV QaA ?_|refine QV (rr_not rfl rfl) ?_))
    exact E_ret1 rfl rfl fun w hm => hm.ret
end Go.Proofs.Ytomkjjpdnmcnnaa.eng

/- FactsB -/
namespace Go.Proofs.Ytomkjjpdnmcnnaa.eng
open Go.RowKit kit mix gramL factsL
theorem bits_orN {x y : Nat} (hx : x < 18446744073709551616) (hy : y < 18446744073709551616) : bits .or .u64 (x : Int) (y : Int) = ((x ||| y : Nat) : Int) := by
  have h := bits_nat .u64 64 (by decide) (fun n h0 h1 => by rw [IntKind.wrap_u64]; omega) x y (by simpa using hx) (by simpa using hy)
  exact h.2
theorem or_lt {x y : Nat} (hx : x < 18446744073709551616) (hy : y < 18446744073709551616) : x ||| y < 18446744073709551616 := Nat.or_lt_two_pow (n := 64) hx hy
theorem pow_lt64 {m : Nat} (h : m < 64) : 2 ^ m < 18446744073709551616 := by
  have : (2 : Nat) ^ m < 2 ^ 64 := Nat.pow_lt_pow_right (by decide) h
  simpa using this
theorem shl1 {P : Program} (m : Nat) (hm : m < 64) (w : World) : (Op.shift .shl .u64 1 .i64 (m : Int)).run P w = .ok (.int .u64 ((2 ^ m : Nat) : Int)) w := by
  have e : min m 64 = m := by omega
  have hp := pow_lt64 hm
  have e2 : (2 : Int) ^ m = ((2 ^ m : Nat) : Int) := by rw [Int.natCast_pow]; rfl
  have e3 : IntKind.u64.wrap ((1 : Int) * 2 ^ m) = ((2 ^ m : Nat) : Int) := by
    rw [e2, IntKind.wrap_u64, Int.one_mul]
    generalize 2 ^ m = q at hp
    omega
  have h0 : ¬ ((m : Int) < 0) := by omega
  simp only [Op.shift, if_neg h0, IntKind.bits, Int.toNat_natCast, e, e3, Sem.run_pure]
attribute [local irreducible] Op.shift Go.bits in
set_option maxHeartbeats 1000000 in
theorem add_calls (g cap : Nat) (l : List Nat) (i b : Nat) (w : World) (B : Base) (hi : i < l.length) (h64 : ∀ x ∈ l, x < 18446744073709551616) (hb : b < 18446744073709551616) (hm : Mem B [rowO 70 1 (.slice (some ⟨g, 0, none⟩) l.length cap) l.length (l.map bitV)] w) :
    Calls Try.prog 42 #[.slice (some ⟨g, 0, none⟩) l.length cap, .int .i64 (i : Int), bitV b] w (MeetsB ⟨fun (_ : Unit) => True, fun _ => .bool (addF l i b).2, fun _ => [rowO 70 1 (.slice (some ⟨g, 0, none⟩) l.length cap) l.length ((addF l i b).1.map bitV)]⟩ B) := by
  have hc := bit_at hi
  have hx64 : l.getD i 0 < 18446744073709551616 := by
    have e : l.getD i 0 = l[i] := by rw [List.getD_eq_getElem?_getD, List.getElem?_eq_getElem hi]; rfl
    rw [e]; exact h64 _ (List.getElem_mem hi)
  refine enterB hm (args := [.slice (some ⟨g, 0, none⟩) l.length cap, .int .i64 (i : Int), bitV b]) (n := 25) Try.func42 rfl rfl rfl ?_
  unfold addF
  generalize l.getD i 0 = x at *
  have hor := bits_orN hx64 hb
  have hset : ((l.map bitV).set i (.int .u64 ((x ||| b : Nat) : Int)))[0 + i]? = some (.int .u64 ((x ||| b : Nat) : Int)) := by
    rw [Nat.zero_add, List.getElem?_set_self (by simpa using hi)]
  generalize x ||| b = y at *
  by_cases c : y = x
  · rw [show (!decide (y = x)) = false by simp [c]]
    repeat(first|refine QV QP ?_|refine QZ ?_|refine QV (rr_idx1 Und.eq TyC.ty rfl rfl hi) ?_|refine QV (rr_load1 TyC.ty rfl (at_row (i := 0) rfl (by rw [Nat.zero_add]; exact hc))) ?_|refine QV (rr_or rfl rfl hor) ?_|refine QV QnT ?_|refine QV QnF ?_)
    refine TL_storeRow (i := 0) TyC.ty rfl rfl rfl rfl rfl rfl (by simpa using hi) ?_
    conv => arg 8; simp only [List.set_cons_zero, Nat.zero_add]
    repeat(first|refine QV QP ?_|refine QZ ?_|refine QV (rr_idx1 Und.eq TyC.ty rfl rfl hi) ?_|refine QV (rr_load1 TyC.ty rfl (at_row (i := 0) rfl hset)) ?_|refine QV QnT ?_|refine QV QnF ?_)
    exact E_ret1 rfl rfl fun w hm => hm.meetsB (S := ⟨fun (_ : Unit) => True, fun _ => .bool false, fun _ => [rowO 70 1 (.slice (some ⟨g, 0, none⟩) l.length cap) l.length ((l.set i y).map bitV)]⟩) () trivial [0] (by decide) (by simp [List.map_set]; rfl)
  · rw [show (!decide (y = x)) = true by simp [c]]
    repeat(first|refine QV QP ?_|refine QZ ?_|refine QV (rr_idx1 Und.eq TyC.ty rfl rfl hi) ?_|refine QV (rr_load1 TyC.ty rfl (at_row (i := 0) rfl (by rw [Nat.zero_add]; exact hc))) ?_|refine QV (rr_or rfl rfl hor) ?_|refine QV QnT ?_|refine QV QnF ?_)
    refine TL_storeRow (i := 0) TyC.ty rfl rfl rfl rfl rfl rfl (by simpa using hi) ?_
    conv => arg 8; simp only [List.set_cons_zero, Nat.zero_add]
    repeat(first|refine QV QP ?_|refine QZ ?_|refine QV (rr_idx1 Und.eq TyC.ty rfl rfl hi) ?_|refine QV (rr_load1 TyC.ty rfl (at_row (i := 0) rfl hset)) ?_|refine QV QnT ?_|refine QV QnF ?_)
    exact E_ret1 rfl rfl fun w hm => hm.meetsB (S := ⟨fun (_ : Unit) => True, fun _ => .bool true, fun _ => [rowO 70 1 (.slice (some ⟨g, 0, none⟩) l.length cap) l.length ((l.set i y).map bitV)]⟩) () trivial [0] (by decide) (by simp [List.map_set]; rfl)
theorem beginGo_cons (E : List Bool) (F : List Nat) (behind : Nat) (x : Sym) (r : List Sym) (out : Nat) : beginGo E F behind (x :: r) out = if x.1 = 1 then out ||| 2 ^ x.2.toNat else if E.getD x.2.toNat false = true then beginGo E F behind r (out ||| F.getD x.2.toNat 0) else out ||| F.getD x.2.toNat 0 := rfl
theorem beginGo_nil (E : List Bool) (F : List Nat) (behind out : Nat) : beginGo E F behind [] out = out ||| behind := rfl
def facV (vE vF vL vR vM : Value) : Value := .agg #[vE, vF, vL, vR, vM]
attribute [local irreducible] Op.shift Go.bits in
set_option maxHeartbeats 2000000 in
theorem begin_calls (vE vF vL vR vM vb : Value) (E : List Bool) (F : List Nat) (body : List Sym) (behind : Nat) (w : World) (hE : Sl w vE E.length (E.map .bool)) (hF : Sl w vF F.length (F.map bitV)) (hs : Sl w vb body.length (body.flatMap symC)) (hEF : E.length = F.length)
    (hok : ∀ x ∈ body, (x.1 = 1 → 0 ≤ x.2 ∧ x.2 < 64) ∧ (x.1 ≠ 1 → 0 ≤ x.2 ∧ x.2 < F.length)) (h64 : ∀ x ∈ F, x < 18446744073709551616) (hb : behind < 18446744073709551616) :
    Calls Try.prog 43 #[facV vE vF vL vR vM, vb, bitV behind] w (Meets (ret (bitV (beginF E F body behind))) w) := by
  obtain ⟨bE, cE, rfl, e1, e2, e3⟩ := hE
  obtain ⟨bF, cF, rfl, f1, f2, f3⟩ := hF
  obtain ⟨bb, cb, rfl, h4, h5, h6⟩ := hs
  unfold maxLen at e2 f2 h5
  refine enter (args := [facV (.slice bE E.length cE) (.slice bF F.length cF) vL vR vM, .slice bb body.length cb, bitV behind]) (n := 44) Try.func43 rfl rfl rfl ?_
  refine T_seq (T_region (TL_box rfl rfl rfl fun g3 => ?_))
  repeat(first|refine QV QP ?_|refine QZ ?_|refine qcT rfl ?_|refine qcF rfl ?_|refine E_blockX ?_|refine E_blockO rfl ?_|refine QV QL ?_|refine QV QA ?_|refine QV (rr_not rfl rfl) ?_|refine QV QlT ?_|refine QV QlF ?_|refine QV QeT ?_|refine QV QeF ?_|refine QV QaA ?_)
  unfold beginF
  refine T_loop (ι := Nat × Nat) (fun (k, out) => k ≤ body.length ∧ out < 18446744073709551616 ∧ beginGo E F behind body 0 = beginGo E F behind (body.drop k) out) (fun (k, out) => [(2, bitV behind), (3, .pointer (some ⟨g3, 0, none⟩)), (7, bitV out), (10, .slice bb body.length cb), (11, .int .i64 body.length), (12, .int .i64 (k : Int))]) (fun _ => [blkO g3 (facV (.slice bE E.length cE) (.slice bF F.length cF) vL vR vM).cells 34]) (fun (k, _) => body.length - k) (0, 0) ⟨Nat.zero_le _, by decide, rfl⟩ (by repeat' (first | exact True.intro | refine And.intro rfl ?_)) rfl ?_
  rintro ⟨k, out⟩ ⟨i1, i3, i2⟩
  dsimp only at i1 i3 i2 ⊢
  rw [i2]
  clear i2
  by_cases c6 : k < body.length
  · obtain ⟨b, off, rfl, hr⟩ := h6 (by omega)
    have hat := at_el (L := [blkO g3 (facV (.slice bE E.length cE) (.slice bF F.length cF) vL vR vM).cells 34]) SymS_len hr c6
    have hokx := hok body[k] (List.getElem_mem c6)
    have hd : beginGo E F behind (body.drop k) out = beginGo E F behind (body[k] :: body.drop (k + 1)) out := by
      rw [List.drop_eq_getElem_cons c6]
    rw [hd]
    clear hd h6 hok hr
    generalize body[k] = x at *
    obtain ⟨q, m⟩ := x
    dsimp only at *
    rw [beginGo_cons]
    dsimp only
    by_cases c1 : q = 1
    · rw [if_pos c1]
      obtain ⟨o1, o2⟩ := hokx.1 c1
      obtain ⟨mm, rfl⟩ : ∃ mm : Nat, m = mm := ⟨m.toNat, by omega⟩
      rw [Int.toNat_natCast]
      have hsh := fun w => shl1 (P := Try.prog) mm (by omega) w
      have hor := bits_orN i3 (pow_lt64 (m := mm) (by omega))
      repeat(first|refine QV QP ?_|refine QZ ?_|refine qcT rfl ?_|refine qcF rfl ?_|refine E_blockX ?_|refine E_blockO rfl ?_|refine QV (rr_idxc Und.eq TyC.ty rfl rfl c6) ?_|refine QV (rr_loadN TyC.ty rfl rfl hat) ?_|refine QV QL ?_|refine QV QA ?_|refine QV (rr_not rfl rfl) ?_|refine QV QlT ?_|refine QV QlF ?_|refine QV QeT ?_|refine QV QeF ?_|refine QV QaA ?_)
      refine TL_new rfl fun g8 => ?_
      refine TL_storeB (i := 1) rfl rfl rfl rfl rfl rfl ?_
      repeat(first|refine QV QP ?_|refine QZ ?_|refine qcT rfl ?_|refine qcF rfl ?_|refine E_blockX ?_|refine E_blockO rfl ?_|refine QV (rr_load1 TyC.ty rfl (at_blk (i := 1) rfl rfl)) ?_|refine QV (rr_shl rfl rfl hsh) ?_|refine QV (rr_or rfl rfl hor) ?_|refine QV QL ?_|refine QV QA ?_|refine QV (rr_not rfl rfl) ?_|refine QV QlT ?_|refine QV QlF ?_|refine QV QeT ?_|refine QV QeF ?_|refine QV QaA ?_)
      exact E_ret1 rfl rfl fun w hm => hm.ret
    · rw [if_neg c1]
      obtain ⟨o1, o2⟩ := hokx.2 c1
      obtain ⟨mm, rfl⟩ : ∃ mm : Nat, m = mm := ⟨m.toNat, by omega⟩
      rw [Int.toNat_natCast]
      have hmm : mm < F.length := by omega
      have hmE : mm < E.length := by omega
      obtain ⟨b1, off1, rfl, hr1⟩ := e3 (by omega)
      obtain ⟨b2, off2, rfl, hr2⟩ := f3 (by omega)
      have hcE := bool_at hmE
      have hcF := bit_at hmm
      have hx64 : F.getD mm 0 < 18446744073709551616 := by
        have e : F.getD mm 0 = F[mm] := by rw [List.getD_eq_getElem?_getD, List.getElem?_eq_getElem hmm]; rfl
        rw [e]; exact h64 _ (List.getElem_mem hmm)
      have hor := bits_orN i3 hx64
      have hlt := or_lt i3 hx64
      generalize E.getD mm false = y at *
      generalize F.getD mm 0 = z at *
      generalize out ||| z = o2 at *
      cases y
      · rw [if_neg (by decide)]
        repeat(first|refine QV QP ?_|refine QZ ?_|refine qcT rfl ?_|refine qcF rfl ?_|refine E_blockX ?_|refine E_blockO rfl ?_|refine QV (rr_idxc Und.eq TyC.ty rfl rfl c6) ?_|refine QV (rr_loadN TyC.ty rfl rfl hat) ?_|refine QV QL ?_|refine QV QA ?_|refine QV (rr_not rfl rfl) ?_|refine QV QlT ?_|refine QV QlF ?_|refine QV QeT ?_|refine QV QeF ?_|refine QV QaA ?_)
        refine TL_new rfl fun g8 => ?_
        refine TL_storeB (i := 1) rfl rfl rfl rfl rfl rfl ?_
        repeat(first|refine QV QP ?_|refine QZ ?_|refine qcT rfl ?_|refine qcF rfl ?_|refine E_blockX ?_|refine E_blockO rfl ?_|refine QV (rr_load1 TyC.ty rfl (at_blk (i := 1) rfl rfl)) ?_|refine QV (rr_load1 TyC.ty rfl (at_blk (i := 0) rfl rfl)) ?_|refine QV (rr_idx1 Und.eq TyC.ty rfl rfl hmm) ?_|refine QV (rr_idx1 Und.eq TyC.ty rfl rfl hmE) ?_|refine QV (rr_load1 TyC.ty rfl (at_rd hr1 hcE)) ?_|refine QV (rr_load1 TyC.ty rfl (at_rd hr2 hcF)) ?_|refine QV (rr_or rfl rfl hor) ?_|refine QV QL ?_|refine QV QA ?_|refine QV (rr_not rfl rfl) ?_|refine QV QlT ?_|refine QV QlF ?_|refine QV QeT ?_|refine QV QeF ?_|refine QV QaA ?_)
        exact E_ret1 rfl rfl fun w hm => hm.ret
      · rw [if_pos rfl]
        repeat(first|refine QV QP ?_|refine QZ ?_|refine qcT rfl ?_|refine qcF rfl ?_|refine E_blockX ?_|refine E_blockO rfl ?_|refine QV (rr_idxc Und.eq TyC.ty rfl rfl c6) ?_|refine QV (rr_loadN TyC.ty rfl rfl hat) ?_|refine QV QL ?_|refine QV QA ?_|refine QV (rr_not rfl rfl) ?_|refine QV QlT ?_|refine QV QlF ?_|refine QV QeT ?_|refine QV QeF ?_|refine QV QaA ?_)
        refine TL_new rfl fun g8 => ?_
        refine TL_storeB (i := 1) rfl rfl rfl rfl rfl rfl ?_
        repeat(first|refine QV QP ?_|refine QZ ?_|refine qcT rfl ?_|refine qcF rfl ?_|refine E_blockX ?_|refine E_blockO rfl ?_|refine QV (rr_load1 TyC.ty rfl (at_blk (i := 1) rfl rfl)) ?_|refine QV (rr_load1 TyC.ty rfl (at_blk (i := 0) rfl rfl)) ?_|refine QV (rr_idx1 Und.eq TyC.ty rfl rfl hmm) ?_|refine QV (rr_idx1 Und.eq TyC.ty rfl rfl hmE) ?_|refine QV (rr_load1 TyC.ty rfl (at_rd hr1 hcE)) ?_|refine QV (rr_load1 TyC.ty rfl (at_rd hr2 hcF)) ?_|refine QV (rr_or rfl rfl hor) ?_|refine QV QL ?_|refine QV QA ?_|refine QV (rr_not rfl rfl) ?_|refine QV QlT ?_|refine QV QlF ?_|refine QV QeT ?_|refine QV QeF ?_|refine QV QaA ?_)
        refine E_pick [0] (by decide) rfl ?_
        exact E_round (k + 1, o2) ⟨by omega, hlt, rfl⟩ (by show body.length - (k + 1) < body.length - k; omega) (by repeat' (first | exact True.intro | refine And.intro rfl ?_)) rfl
  · rw [List.drop_of_length_le (by omega)]
    have hor := bits_orN i3 hb
    rw [beginGo_nil]
    repeat(first|refine QV QP ?_|refine QZ ?_|refine qcT rfl ?_|refine qcF rfl ?_|refine E_blockX ?_|refine E_blockO rfl ?_|refine QV (rr_or rfl rfl hor) ?_|refine QV QL ?_|refine QV QA ?_|refine QV (rr_not rfl rfl) ?_|refine QV QlT ?_|refine QV QlF ?_|refine QV QeT ?_|refine QV QeF ?_|refine QV QaA ?_)
    exact E_ret1 rfl rfl fun w hm => hm.ret
end Go.Proofs.Ytomkjjpdnmcnnaa.eng

/- FactsC -/
namespace Go.Proofs.Ytomkjjpdnmcnnaa.eng
open Go.RowKit kit mix gramL factsL
/-- a row of bools of a given number -/
def rowBn (n g c : Nat) (l : List Bool) : Own := rowO 4 1 (.slice (some ⟨g, 0, none⟩) n c) n (l.map .bool)
theorem mark2_calls (n g cap : Nat) (l : List Bool) (i : Nat) (b : Bool) (w : World) (B : Base) (hl : l.length = n) (hi : i < n) (hm : Mem B [rowBn n g cap l] w) :
    Calls Try.prog 40 #[.slice (some ⟨g, 0, none⟩) n cap, .int .i64 (i : Int), .bool b] w (MeetsB ⟨fun (_ : Unit) => True, fun _ => .bool (markF l i b).2, fun _ => [rowBn n g cap (markF l i b).1]⟩ B) := by
  subst hl
  exact mark_calls g cap l i b w B hi hm
structure Rows3 where
  gE : Nat
  cE : Nat
  gR : Nat
  cR : Nat
  gM : Nat
  cM : Nat
def vRow (n g c : Nat) : Value := .slice (some ⟨g, 0, none⟩) n c
theorem roundR_cons (h : Nat) (x : Sym) (r : List Sym) (R : List Bool) (more : Bool) : roundR h (x :: r) R more = roundR h r (stepR h x R more).1 (stepR h x R more).2 := rfl
theorem roundL_cons (p : gramL.Prod) (r : List gramL.Prod) (s : FS) : roundL (p :: r) s = roundL r (roundP p s) := rfl
set_option maxHeartbeats 8000000 in
theorem round_calls (w0 : World) (v : Value) (g : Gram) (h : GraR (fun k => k < w0.heap.size) w0 v g) (hck : checkG g = 0) (n : Nat) (hn : g.nons = n) (x : Rows3) (vF vL : Value) (E R M : List Bool) (hE : E.length = n) (hR : R.length = n) (hM : M.length = n) (w : World) (B : Base) (ho : Old w0 B) (hm : Mem B [rowBn n x.gE x.cE E, rowBn n x.gR x.cR R, rowBn n x.gM x.cM M] w) :
    Calls Try.prog 24 #[v, facV (vRow n x.gE x.cE) vF vL (vRow n x.gR x.cR) (vRow n x.gM x.cM)] w (MeetsB ⟨fun (_ : Unit) => True, fun _ => .bool (roundL g.prods ⟨E, R, M, false⟩).more, fun _ => [rowBn n x.gE x.cE (roundL g.prods ⟨E, R, M, false⟩).E, rowBn n x.gR x.cR (roundL g.prods ⟨E, R, M, false⟩).R, rowBn n x.gM x.cM (roundL g.prods ⟨E, R, M, false⟩).M]⟩ B) := by
  obtain ⟨gE, cE, gR, cR, gM, cM⟩ := x
  dsimp only at *
  obtain ⟨_, _, _, _, hlen, hps⟩ := checkG_ok hck
  obtain ⟨vp, rfl, h1, _⟩ := h
  obtain ⟨bp, cp, rfl, hcp, hmp, hrp⟩ := h1
  unfold maxLen at hmp
  obtain ⟨t, nn, prods⟩ := g
  dsimp only at *
  subst hn
  refine enterB hm (args := [graV t (n : Int) (.slice bp prods.length cp), facV (vRow n gE cE) vF vL (vRow n gR cR) (vRow n gM cM)]) (n := 70) Try.func24 rfl rfl rfl ?_
  refine T_seq (T_region (TL_box rfl rfl rfl fun g2 => TL_box rfl rfl rfl fun g3 => ?_))
  conv=>arg 8;simp only[zA,zB,zC,zD,zE,zF,zG,zH,zI,rowS,ret,id_eq]
  repeat(first|refine QV QP ?_|refine QZ ?_|refine qcT rfl ?_|refine qcF rfl ?_|refine E_blockX ?_|refine E_blockO rfl ?_|refine qs rfl rfl rfl rfl rfl rfl ?_|((try refine qg rfl rfl rfl ?_);first|refine QV QP ?_|refine QV (rr_load1 TyC.ty rfl (at_blk (i := 3) rfl rfl)) ?_|refine QV QL ?_|refine QV QA ?_|refine QV QlT ?_|refine QV QlF ?_|refine QV QeT ?_|refine QV QeF ?_|refine QV QaA ?_))
  refine T_pick [0, 1, 2, 4] (by decide) rfl ?_
  generalize hfin : roundL prods ⟨E, R, M, false⟩ = fin
  refine T_loop (ι := Nat × FS) (fun (k, s) => k ≤ prods.length ∧ s.E.length = n ∧ s.R.length = n ∧ s.M.length = n ∧ roundL (prods.drop k) s = fin) (fun (k, s) => [(3, .pointer (some ⟨g3, 0, none⟩)), (5, .bool s.more), (11, .slice bp prods.length cp), (12, .int .i64 prods.length), (13, .int .i64 (k : Int))])
    (fun (_, s) => [rowBn n gE cE s.E, rowBn n gR cR s.R, rowBn n gM cM s.M, blkO g3 (facV (vRow n gE cE) vF vL (vRow n gR cR) (vRow n gM cM)).cells 34]) (fun (k, _) => prods.length - k) (0, ⟨E, R, M, false⟩) ⟨Nat.zero_le _, hE, hR, hM, hfin⟩ (by repeat' (first | exact True.intro | refine And.intro rfl ?_)) rfl ?_
  clear hm hE hR hM hfin
  rintro ⟨k, E, R, M, more⟩ ⟨i1, i2, i3, i4, i5⟩
  dsimp only at i1 i2 i3 i4 i5 ⊢
  by_cases c6 : k < prods.length
  · obtain ⟨b, off, rfl, _, hr⟩ := hrp (by omega)
    obtain ⟨bb, cb, q1, q2, q3⟩ := prod_at hr c6
    have hpk := hps prods[k] (List.getElem_mem c6)
    rw [List.drop_eq_getElem_cons c6, roundL_cons] at i5
    have hat : ∀ (L : List Own) (j : Nat) (v : Value), ([.int .i64 prods[k].1, .slice bb prods[k].2.length cb] : List Value)[j]? = some v → At B L ⟨b, off + k * 2 + j, none⟩ v := fun L j v hj => at_old0 ho (q1 j v hj)
    have hfl := q3.flat (by decide)
    clear hr hrp q1 hps q3
    generalize prods[k] = p at *
    obtain ⟨hd, body⟩ := p
    obtain ⟨p1, p2, p3, p4⟩ := hpk
    dsimp only at *
    obtain ⟨hn, rfl⟩ : ∃ hn : Nat, hd = hn := ⟨hd.toNat, by omega⟩
    have hhn : hn < n := by omega
    have hbody : ∀ x ∈ body, x.1 = 2 → 0 ≤ x.2 ∧ x.2 < (n : Int) := fun x hx hx2 => by
      have := p4 x hx
      unfold right at this
      rw [if_neg (by omega), if_pos hx2] at this
      simpa using this
    have hsb : ∀ w' L, Mem B L w' → Sl w' (.slice bb body.length cb) body.length (body.flatMap symC) := fun w' L hm => hfl.gr (ho.mem hm)
    unfold roundP at i5
    dsimp only at i5
    rw [Int.toNat_natCast] at i5
    have hall1 := fun w' L (hm : Mem B L w') (hx : Sl w' (vRow n gE cE) E.length (E.map .bool)) => allB_calls (vRow n gE cE) (.slice bb body.length cb) E body false w' hx (hsb w' L hm) (fun x hx hx2 => by rw [i2]; exact hbody x hx hx2)
    have hall2 := fun w' L (hm : Mem B L w') (hx : Sl w' (vRow n gM cM) M.length (M.map .bool)) => allB_calls (vRow n gM cM) (.slice bb body.length cb) M body true w' hx (hsb w' L hm) (fun x hx hx2 => by rw [i4]; exact hbody x hx hx2)
    generalize allF E body false = a1 at *
    generalize allF M body true = a2 at *
    have hmk1 := fun w' B' hm => mark2_calls n gE cE E hn a1 w' B' i2 hhn hm
    have hmk2 := fun w' B' hm => mark2_calls n gM cM M hn a2 w' B' i4 hhn hm
    have hl1 := markF_len E hn a1
    have hl2 := markF_len M hn a2
    rw [i2] at hl1 hall1
    rw [i4] at hl2 hall2
    generalize markF E hn a1 = m1 at *
    generalize markF M hn a2 = m2 at *
    obtain ⟨E1, b1⟩ := m1
    obtain ⟨M1, b2⟩ := m2
    dsimp only at *
    repeat(first|refine QV QP ?_|refine QZ ?_|refine qcT rfl ?_|refine qcF rfl ?_|refine E_blockX ?_|refine E_blockO rfl ?_|refine qs rfl rfl rfl rfl rfl rfl ?_|((try refine qg rfl rfl rfl ?_);first|refine QV QP ?_|refine QV (rr_idxc Und.eq TyC.ty rfl rfl c6) ?_|refine QV (rr_loadN TyC.ty rfl rfl (hat _)) ?_|refine QV QL ?_|refine QV QA ?_|refine QV QlT ?_|refine QV QlF ?_|refine QV QeT ?_|refine QV QeF ?_|refine QV QaA ?_))
    clear hat
    refine TL_new rfl fun g7 => ?_
    refine TL_storeB (i := 4) rfl rfl rfl rfl rfl rfl ?_
    conv=>arg 8;simp only[zA,zB,zC,zD,zE,zF,zG,zH,zI,rowS,ret,id_eq]
    repeat(first|refine QV QP ?_|refine TL_nil ?_|refine E_then ?_|refine qs rfl rfl rfl rfl rfl rfl ?_|((try refine qg rfl rfl rfl ?_);first|refine QV QP ?_|refine QV QL ?_|refine QV QA ?_|refine QV QlT ?_|refine QV QlF ?_|refine QV QeT ?_|refine QV QeF ?_|refine QV QaA ?_))
    (repeat refine T_seq ?_)
    refine T_midq (ι := Unit) (fun _ => True) (fun _ => [(3, .pointer (some ⟨g3, 0, none⟩)), (5, .bool (b1 || more)), (7, .pointer (some ⟨g7, 0, none⟩)), (11, .slice (some ⟨b, off, none⟩) prods.length cp), (12, .int .i64 prods.length), (13, .int .i64 (k : Int))])
      (fun _ => [rowBn n gE cE E1, rowBn n gR cR R, rowBn n gM cM M, blkO g3 (facV (vRow n gE cE) vF vL (vRow n gR cR) (vRow n gM cM)).cells 34, blkO g7 #[.int .i64 (hn : Int), .slice bb body.length cb] 57]) ?_ ?_
    · refine T_ord ([blkO g3 (facV (vRow n gE cE) vF vL (vRow n gR cR) (vRow n gM cM)).cells 34, blkO g7 #[.int .i64 (hn : Int), .slice bb body.length cb] 57]) (.calm 0 (.calm 1 (.calm 2 (.calm 3 (.calm 4 (.calm 5 (.calm 6 (.calm 7 (.one 8 (.one 9 (.calm 10 (.calm 11 (.calm 12 (.calm 13 (.done))))))))))))))) (sub_pick [3, 4] (by decide) rfl) (by kernel_rfl) (by kernel_rfl) (by intro c a d v w h; cases d <;> exact h) ?_
      repeat(first|((first|refine TW_plain rfl rfl ?_|refine TW_gmet rfl rfl rfl rfl ?_);first|refine QW QP ?_|refine QW (rr_load1 TyC.ty rfl (at_blk (i := 0) rfl rfl)) ?_|refine QW (rr_load1 TyC.ty rfl (at_blk (i := 1) rfl rfl)) ?_|refine QW QL ?_|refine QW QA ?_|refine QW QlT ?_|refine QW QlF ?_|refine QW QeT ?_|refine QW QeF ?_|refine QW QaA ?_)|refine TW_skip rfl rfl rfl rfl rfl rfl rfl ?_|refine TW_done ?_)
      refine TW_one rfl ?_
      refine TL_call (he3 EntersC.en rfl rfl rfl rfl) (fun w hm => hall1 _ _ hm (sl_row (i := 0) rfl w hm)) rfl rfl rfl ?_
      intro _ _
      conv=>arg 8;simp only[zA,zB,zC,zD,zE,zF,zG,zH,zI,rowS,ret,id_eq]
      refine TW_on (sub_pick [3, 4] (by decide) rfl) ?_
      refine TW_one rfl ?_
      refine TL_callB [0] [1, 2, 3, 4] (by decide) rfl rfl (he3 EntersC.en rfl rfl rfl rfl) (fun w hm hb => hmk1 w _ hb) rfl rfl rfl ?_
      intro _ _
      conv=>arg 8;simp only[zA,zB,zC,zD,zE,zF,zG,zH,zI,rowS,ret,id_eq]
      refine TW_on (sub_pick [2, 3] (by decide) rfl) ?_
      cases b1
      · repeat(first|((first|refine TW_plain rfl rfl ?_|refine TW_gmet rfl rfl rfl rfl ?_);first|refine QW QP ?_|refine QW QL ?_|refine QW QA ?_|refine QW QlT ?_|refine QW QlF ?_|refine QW QeT ?_|refine QW QeF ?_|refine QW QaA ?_)|refine TW_skip rfl rfl rfl rfl rfl rfl rfl ?_|refine TW_done ?_)
        refine E_pick [4, 0, 1, 2, 3] (by decide) rfl ?_
        exact E_mid () trivial (by repeat' (first | exact True.intro | refine And.intro rfl ?_)) rfl
      · repeat(first|((first|refine TW_plain rfl rfl ?_|refine TW_gmet rfl rfl rfl rfl ?_);first|refine QW QP ?_|refine QW QL ?_|refine QW QA ?_|refine QW QlT ?_|refine QW QlF ?_|refine QW QeT ?_|refine QW QeF ?_|refine QW QaA ?_)|refine TW_skip rfl rfl rfl rfl rfl rfl rfl ?_|refine TW_done ?_)
        refine E_pick [4, 0, 1, 2, 3] (by decide) rfl ?_
        exact E_mid () trivial (by repeat' (first | exact True.intro | refine And.intro rfl ?_)) rfl
    intro _ _
    (repeat refine T_seq ?_)
    refine T_midq (ι := Unit) (fun _ => True) (fun _ => [(3, .pointer (some ⟨g3, 0, none⟩)), (5, .bool (b2 || (b1 || more))), (7, .pointer (some ⟨g7, 0, none⟩)), (11, (.slice (some ⟨b, off, none⟩) prods.length cp)), (12, .int .i64 prods.length), (13, .int .i64 (k : Int))])
      (fun _ => [rowBn n gE cE E1, rowBn n gR cR R, rowBn n gM cM M1, blkO g3 (facV (vRow n gE cE) vF vL (vRow n gR cR) (vRow n gM cM)).cells 34, blkO g7 #[.int .i64 (hn : Int), .slice bb body.length cb] 57]) ?_ ?_
    · refine T_ord ([blkO g3 (facV (vRow n gE cE) vF vL (vRow n gR cR) (vRow n gM cM)).cells 34, blkO g7 #[.int .i64 (hn : Int), .slice bb body.length cb] 57]) (.calm 0 (.calm 1 (.calm 2 (.calm 3 (.calm 4 (.calm 5 (.calm 6 (.calm 7 (.one 8 (.one 9 (.calm 10 (.calm 11 (.calm 12 (.calm 13 (.done))))))))))))))) (sub_pick [3, 4] (by decide) rfl) (by kernel_rfl) (by kernel_rfl) (by intro c a d v w h; cases d <;> exact h) ?_
      repeat(first|((first|refine TW_plain rfl rfl ?_|refine TW_gmet rfl rfl rfl rfl ?_);first|refine QW QP ?_|refine QW (rr_load1 TyC.ty rfl (at_blk (i := 0) rfl rfl)) ?_|refine QW (rr_load1 TyC.ty rfl (at_blk (i := 1) rfl rfl)) ?_|refine QW QL ?_|refine QW QA ?_|refine QW QlT ?_|refine QW QlF ?_|refine QW QeT ?_|refine QW QeF ?_|refine QW QaA ?_)|refine TW_skip rfl rfl rfl rfl rfl rfl rfl ?_|refine TW_done ?_)
      refine TW_one rfl ?_
      refine TL_call (he3 EntersC.en rfl rfl rfl rfl) (fun w hm => hall2 _ _ hm (sl_row (i := 2) rfl w hm)) rfl rfl rfl ?_
      intro _ _
      conv=>arg 8;simp only[zA,zB,zC,zD,zE,zF,zG,zH,zI,rowS,ret,id_eq]
      refine TW_on (sub_pick [3, 4] (by decide) rfl) ?_
      refine TW_one rfl ?_
      refine TL_callB [2] [0, 1, 3, 4] (by decide) rfl rfl (he3 EntersC.en rfl rfl rfl rfl) (fun w hm hb => hmk2 w _ hb) rfl rfl rfl ?_
      intro _ _
      conv=>arg 8;simp only[zA,zB,zC,zD,zE,zF,zG,zH,zI,rowS,ret,id_eq]
      refine TW_on (sub_pick [2, 3] (by decide) rfl) ?_
      generalize (b1 || more) = mo
      cases b2
      · repeat(first|((first|refine TW_plain rfl rfl ?_|refine TW_gmet rfl rfl rfl rfl ?_);first|refine QW QP ?_|refine QW QL ?_|refine QW QA ?_|refine QW QlT ?_|refine QW QlF ?_|refine QW QeT ?_|refine QW QeF ?_|refine QW QaA ?_)|refine TW_skip rfl rfl rfl rfl rfl rfl rfl ?_|refine TW_done ?_)
        refine E_pick [0, 1, 4, 2, 3] (by decide) rfl ?_
        exact E_mid () trivial (by repeat' (first | exact True.intro | refine And.intro rfl ?_)) rfl
      · repeat(first|((first|refine TW_plain rfl rfl ?_|refine TW_gmet rfl rfl rfl rfl ?_);first|refine QW QP ?_|refine QW QL ?_|refine QW QA ?_|refine QW QlT ?_|refine QW QlF ?_|refine QW QeT ?_|refine QW QeF ?_|refine QW QaA ?_)|refine TW_skip rfl rfl rfl rfl rfl rfl rfl ?_|refine TW_done ?_)
        refine E_pick [0, 1, 4, 2, 3] (by decide) rfl ?_
        exact E_mid () trivial (by repeat' (first | exact True.intro | refine And.intro rfl ?_)) rfl
    intro _ _
    generalize (b2 || (b1 || more)) = mo at *
    clear hmk1 hmk2 hall1 hall2
    repeat(first|refine QV QP ?_|refine QZ ?_|refine qcT rfl ?_|refine qcF rfl ?_|refine E_blockX ?_|refine E_blockO rfl ?_|refine qs rfl rfl rfl rfl rfl rfl ?_|((try refine qg rfl rfl rfl ?_);first|refine QV QP ?_|refine QV (rr_load1 TyC.ty rfl (at_blk (i := 4) rfl rfl)) ?_|refine QV QL ?_|refine QV QA ?_|refine QV QlT ?_|refine QV QlF ?_|refine QV QeT ?_|refine QV QeF ?_|refine QV QaA ?_))
    generalize hfr : roundR hn body R mo = fr at *
    obtain ⟨R2, mo2⟩ := fr
    dsimp only at i5
    refine T_loop (ι := Nat × List Bool × Bool) (fun (j, R', m') => j ≤ body.length ∧ R'.length = n ∧ roundR hn (body.drop j) R' m' = (R2, mo2)) (fun (j, _, m') => [(3, .pointer (some ⟨g3, 0, none⟩)), (5, .bool m'), (7, .pointer (some ⟨g7, 0, none⟩)), (11, (.slice (some ⟨b, off, none⟩) prods.length cp)), (12, .int .i64 prods.length), (13, .int .i64 (k : Int)), (44, .slice bb body.length cb), (45, .int .i64 body.length), (46, .int .i64 (j : Int))])
      (fun (_, R', _) => [rowBn n gE cE E1, rowBn n gR cR R', rowBn n gM cM M1, blkO g3 (facV (vRow n gE cE) vF vL (vRow n gR cR) (vRow n gM cM)).cells 34, blkO g7 #[.int .i64 (hn : Int), .slice bb body.length cb] 57]) (fun (j, _, _) => body.length - j) (0, R, mo) ⟨Nat.zero_le _, i3, hfr⟩ (by repeat' (first | exact True.intro | refine And.intro rfl ?_)) rfl ?_
    clear hfr
    rintro ⟨j, R', m'⟩ ⟨j1, j2, j3⟩
    dsimp only at j1 j2 j3 ⊢
    by_cases c7 : j < body.length
    · obtain ⟨b', off', rfl, hrb⟩ := (by
        obtain ⟨bs, cs, hv, _, _, hrd⟩ := hfl
        simp only [Value.slice.injEq, true_and] at hv
        obtain ⟨rfl, rfl⟩ := hv
        exact hrd (by omega) : ∃ b' off', bb = some ⟨b', off', none⟩ ∧ Rd w0 b' off' (body.flatMap symC))
      have hatx : ∀ (L : List Own) (q : Nat) (u : Value), (symC body[j])[q]? = some u → At B L ⟨b', off' + j * 2 + q, none⟩ u := fun L => at_elL SymS_len (fun q u hq => at_old0 ho (hrb q u hq)) c7
      have hx2 := hbody body[j] (List.getElem_mem c7)
      rw [List.drop_eq_getElem_cons c7, roundR_cons] at j3
      clear hbody hrb hfl hsb p4
      generalize body[j] = x at *
      obtain ⟨q, m⟩ := x
      dsimp only at hx2
      unfold stepR at j3
      dsimp only at j3
      by_cases c8 : q = 2
      · subst c8
        rw [if_pos rfl] at j3
        obtain ⟨y1, y2⟩ := hx2 rfl
        obtain ⟨mm, rfl⟩ : ∃ mm : Nat, m = mm := ⟨m.toNat, by omega⟩
        rw [Int.toNat_natCast] at j3
        have hcell := bool_at (l := R') (i := hn) (by omega)
        generalize R'.getD hn false = bh at *
        have hmk := fun w' B' hm => mark2_calls n gR cR R' mm bh w' B' j2 (by omega) hm
        have hl3 := markF_len R' mm bh
        rw [j2] at hl3
        generalize markF R' mm bh = m3 at *
        obtain ⟨R3, b3⟩ := m3
        dsimp only at *
        repeat(first|refine QV QP ?_|refine QZ ?_|refine qcT rfl ?_|refine qcF rfl ?_|refine E_blockX ?_|refine E_blockO rfl ?_|refine qs rfl rfl rfl rfl rfl rfl ?_|((try refine qg rfl rfl rfl ?_);first|refine QV QP ?_|refine QV (rr_idxc Und.eq TyC.ty rfl rfl c7) ?_|refine QV (rr_loadN TyC.ty rfl rfl (hatx _)) ?_|refine QV QL ?_|refine QV QA ?_|refine QV QlT ?_|refine QV QlF ?_|refine QV QeT ?_|refine QV QeF ?_|refine QV QaA ?_))
        clear hatx
        refine TL_new rfl fun g9 => ?_
        refine TL_storeB (i := 5) rfl rfl rfl rfl rfl rfl ?_
        conv=>arg 8;simp only[zA,zB,zC,zD,zE,zF,zG,zH,zI,rowS,ret,id_eq]
        repeat(first|refine QV QP ?_|refine QZ ?_|refine qcT rfl ?_|refine qcF rfl ?_|refine E_blockX ?_|refine E_blockO rfl ?_|refine qs rfl rfl rfl rfl rfl rfl ?_|((try refine qg rfl rfl rfl ?_);first|refine QV QP ?_|refine QV (rr_load1 TyC.ty rfl (at_blk (i := 5) rfl rfl)) ?_|refine QV QL ?_|refine QV QA ?_|refine QV QlT ?_|refine QV QlF ?_|refine QV QeT ?_|refine QV QeF ?_|refine QV QaA ?_))
        refine T_ord ([blkO g3 (facV (vRow n gE cE) vF vL (vRow n gR cR) (vRow n gM cM)).cells 34, blkO g7 #[.int .i64 (hn : Int), .slice (some ⟨b', off', none⟩) body.length cb] 57, blkO g9 #[.int .i64 2, .int .i64 (mm : Int)] 60]) (.calm 0 (.calm 1 (.calm 2 (.calm 3 (.calm 4 (.calm 5 (.calm 6 (.calm 7 (.calm 8 (.one 9 (.one 10 (.calm 11 (.calm 12 (.calm 13 (.calm 14 (.done)))))))))))))))) (sub_pick [3, 4, 5] (by decide) rfl) (by kernel_rfl) (by kernel_rfl) (by intro c a d v w h; cases d <;> exact h) ?_
        repeat(first|((first|refine TW_plain rfl rfl ?_|refine TW_gmet rfl rfl rfl rfl ?_);first|refine QW QP ?_|refine QW (rr_load1 TyC.ty rfl (at_blk (i := 0) rfl rfl)) ?_|refine QW (rr_load1 TyC.ty rfl (at_blk (i := 1) rfl rfl)) ?_|refine QW (rr_load1 TyC.ty rfl (at_blk (i := 2) rfl rfl)) ?_|refine QW (rr_idx1 Und.eq TyC.ty rfl rfl (show hn < n by omega)) ?_|refine QW QL ?_|refine QW QA ?_|refine QW QlT ?_|refine QW QlF ?_|refine QW QeT ?_|refine QW QeF ?_|refine QW QaA ?_)|refine TW_skip rfl rfl rfl rfl rfl rfl rfl ?_|refine TW_done ?_)
        refine TW_one rfl (TL_val (rr_load1 TyC.ty rfl (at_row (i := 1) rfl (by rw [Nat.zero_add]; exact hcell))) rfl rfl rfl (TW_on (sub_pick [3, 4, 5] (by decide) rfl) ?_))
        refine TW_one rfl ?_
        refine TL_callB [1] [0, 2, 3, 4, 5] (by decide) rfl rfl (he3 EntersC.en rfl rfl rfl rfl) (fun w hm hb => hmk w _ hb) rfl rfl rfl ?_
        intro _ _
        conv=>arg 8;simp only[zA,zB,zC,zD,zE,zF,zG,zH,zI,rowS,ret,id_eq]
        refine TW_on (sub_pick [2, 3, 4] (by decide) rfl) ?_
        cases b3
        · repeat(first|((first|refine TW_plain rfl rfl ?_|refine TW_gmet rfl rfl rfl rfl ?_);first|refine QW QP ?_|refine QW QL ?_|refine QW QA ?_|refine QW QlT ?_|refine QW QlF ?_|refine QW QeT ?_|refine QW QeF ?_|refine QW QaA ?_)|refine TW_skip rfl rfl rfl rfl rfl rfl rfl ?_|refine TW_done ?_)
          repeat(first|refine QV QP ?_|refine QZ ?_|refine qcT rfl ?_|refine qcF rfl ?_|refine E_blockX ?_|refine E_blockO rfl ?_|refine qs rfl rfl rfl rfl rfl rfl ?_|((try refine qg rfl rfl rfl ?_);first|refine QV QP ?_|refine QV QL ?_|refine QV QA ?_|refine QV QlT ?_|refine QV QlF ?_|refine QV QeT ?_|refine QV QeF ?_|refine QV QaA ?_))
          refine E_pick [0, 5, 1, 2, 3] (by decide) rfl ?_
          exact E_round (j + 1, R3, false || m') ⟨by omega, hl3, j3⟩ (by show body.length - (j + 1) < body.length - j; omega) (by repeat' (first | exact True.intro | refine And.intro rfl ?_)) rfl
        · repeat(first|((first|refine TW_plain rfl rfl ?_|refine TW_gmet rfl rfl rfl rfl ?_);first|refine QW QP ?_|refine QW QL ?_|refine QW QA ?_|refine QW QlT ?_|refine QW QlF ?_|refine QW QeT ?_|refine QW QeF ?_|refine QW QaA ?_)|refine TW_skip rfl rfl rfl rfl rfl rfl rfl ?_|refine TW_done ?_)
          repeat(first|refine QV QP ?_|refine QZ ?_|refine qcT rfl ?_|refine qcF rfl ?_|refine E_blockX ?_|refine E_blockO rfl ?_|refine qs rfl rfl rfl rfl rfl rfl ?_|((try refine qg rfl rfl rfl ?_);first|refine QV QP ?_|refine QV QL ?_|refine QV QA ?_|refine QV QlT ?_|refine QV QlF ?_|refine QV QeT ?_|refine QV QeF ?_|refine QV QaA ?_))
          refine E_pick [0, 5, 1, 2, 3] (by decide) rfl ?_
          exact E_round (j + 1, R3, true || m') ⟨by omega, hl3, j3⟩ (by show body.length - (j + 1) < body.length - j; omega) (by repeat' (first | exact True.intro | refine And.intro rfl ?_)) rfl
      · rw [if_neg c8] at j3
        dsimp only at j3
        repeat(first|refine QV QP ?_|refine QZ ?_|refine qcT rfl ?_|refine qcF rfl ?_|refine E_blockX ?_|refine E_blockO rfl ?_|refine qs rfl rfl rfl rfl rfl rfl ?_|((try refine qg rfl rfl rfl ?_);first|refine QV QP ?_|refine QV (rr_idxc Und.eq TyC.ty rfl rfl c7) ?_|refine QV (rr_loadN TyC.ty rfl rfl (hatx _)) ?_|refine QV QL ?_|refine QV QA ?_|refine QV QlT ?_|refine QV QlF ?_|refine QV QeT ?_|refine QV QeF ?_|refine QV QaA ?_))
        clear hatx
        refine TL_new rfl fun g9 => ?_
        refine TL_storeB (i := 5) rfl rfl rfl rfl rfl rfl ?_
        conv=>arg 8;simp only[zA,zB,zC,zD,zE,zF,zG,zH,zI,rowS,ret,id_eq]
        repeat(first|refine QV QP ?_|refine QZ ?_|refine qcT rfl ?_|refine qcF rfl ?_|refine E_blockX ?_|refine E_blockO rfl ?_|refine qs rfl rfl rfl rfl rfl rfl ?_|((try refine qg rfl rfl rfl ?_);first|refine QV QP ?_|refine QV (rr_load1 TyC.ty rfl (at_blk (i := 5) rfl rfl)) ?_|refine QV QL ?_|refine QV QA ?_|refine QV QlT ?_|refine QV QlF ?_|refine QV QeT ?_|refine QV QeF ?_|refine QV QaA ?_))
        refine E_pick [0, 1, 2, 3, 4] (by decide) rfl ?_
        exact E_round (j + 1, R', m') ⟨by omega, j2, j3⟩ (by show body.length - (j + 1) < body.length - j; omega) (by repeat' (first | exact True.intro | refine And.intro rfl ?_)) rfl
    · rw [List.drop_of_length_le (by omega)] at j3
      have j3 : (R', m') = (R2, mo2) := j3
      simp only [Prod.mk.injEq] at j3
      obtain ⟨rfl, rfl⟩ := j3
      repeat(first|refine QV QP ?_|refine QZ ?_|refine qcT rfl ?_|refine qcF rfl ?_|refine E_blockX ?_|refine E_blockO rfl ?_|refine qs rfl rfl rfl rfl rfl rfl ?_|((try refine qg rfl rfl rfl ?_);first|refine QV QP ?_|refine QV QL ?_|refine QV QA ?_|refine QV QlT ?_|refine QV QlF ?_|refine QV QeT ?_|refine QV QeF ?_|refine QV QaA ?_))
      refine E_pick [0, 1, 2, 3] (by decide) rfl ?_
      exact E_round (k + 1, ⟨E1, R', M1, m'⟩) ⟨by omega, hl1, j2, hl2, i5⟩ (by show prods.length - (k + 1) < prods.length - k; omega) (by repeat' (first | exact True.intro | refine And.intro rfl ?_)) rfl
  · rw [List.drop_of_length_le (by omega)] at i5
    have i5 : (⟨E, R, M, more⟩ : FS) = fin := i5
    subst i5
    repeat(first|refine QV QP ?_|refine QZ ?_|refine qcT rfl ?_|refine qcF rfl ?_|refine E_blockX ?_|refine E_blockO rfl ?_|refine qs rfl rfl rfl rfl rfl rfl ?_|((try refine qg rfl rfl rfl ?_);first|refine QV QP ?_|refine QV QL ?_|refine QV QA ?_|refine QV QlT ?_|refine QV QlF ?_|refine QV QeT ?_|refine QV QeF ?_|refine QV QaA ?_))
    exact E_ret1 rfl rfl fun w hm => hm.meetsB (S := ⟨fun (_ : Unit) => True, fun _ => .bool more, fun _ => [rowBn n gE cE E, rowBn n gR cR R, rowBn n gM cM M]⟩) () trivial [0, 1, 2] (by decide) rfl
end Go.Proofs.Ytomkjjpdnmcnnaa.eng

/- FactsM -/
namespace Go.Proofs.Ytomkjjpdnmcnnaa.factsL
open gramL
/-! ### steps till nothing is new -/
def fixN {σ : Type} (step : σ → σ × Bool) : Nat → σ → σ
  | 0, s => s
  | f + 1, s => if (step s).2 = true then fixN step f (step s).1 else (step s).1
structure Falls {σ : Type} (step : σ → σ × Bool) (ok : σ → Prop) (μ : σ → Nat) : Prop where
  keep : ∀ s, ok s → ok (step s).1
  dec : ∀ s, ok s → (step s).2 = true → μ (step s).1 < μ s
def fix {σ : Type} (step : σ → σ × Bool) (μ : σ → Nat) (s : σ) : σ := fixN step (μ s + 1) s
section
variable {σ : Type} {step : σ → σ × Bool} {ok : σ → Prop} {μ : σ → Nat}
theorem fixN_fuel (h : Falls step ok μ) : ∀ (f g : Nat) (s : σ), ok s → μ s < f → μ s < g → fixN step f s = fixN step g s
  | 0, _, _, _, h1, _ => by omega
  | _, 0, _, _, _, h2 => by omega
  | f + 1, g + 1, s, hs, h1, h2 => by
    unfold fixN
    by_cases c : (step s).2 = true
    · rw [if_pos c, if_pos c]
      have := h.dec s hs c
      exact fixN_fuel h f g _ (h.keep s hs) (by omega) (by omega)
    · rw [if_neg c, if_neg c]
theorem fix_go (h : Falls step ok μ) {s : σ} (hs : ok s) (c : (step s).2 = true) : fix step μ s = fix step μ (step s).1 := by
  have := h.dec s hs c
  unfold fix
  rw [fixN, if_pos c]
  exact fixN_fuel h _ _ _ (h.keep s hs) (by omega) (by omega)
theorem fix_stop {s : σ} (c : (step s).2 = false) : fix step μ s = (step s).1 := by
  unfold fix
  rw [fixN, if_neg (by rw [c]; decide)]
/-- what is come to is a fixed point: a step from some state there tells nothing new -/
theorem fix_end (h : Falls step ok μ) : ∀ (k : Nat) (s : σ), ok s → μ s ≤ k → ∃ s', ok s' ∧ (step s').2 = false ∧ fix step μ s = (step s').1
  | k, s, hs, hk => by
    by_cases c : (step s).2 = true
    · have hd := h.dec s hs c
      match k with
      | 0 => omega
      | k + 1 =>
        obtain ⟨s', h1, h2, h3⟩ := fix_end h k (step s).1 (h.keep s hs) (by omega)
        exact ⟨s', h1, h2, by rw [fix_go h hs c, h3]⟩
    · have c' : (step s).2 = false := by simpa using c
      exact ⟨s, hs, c', fix_stop c'⟩
end
/-! ### First -/
def stepF (E : List Bool) (M : List Bool) (p : gramL.Prod) (F : List Nat) (more : Bool) : List Nat × Bool :=
  if allF M p.2 true = true then ((addF F p.1.toNat (beginF E F p.2 0)).1, (addF F p.1.toNat (beginF E F p.2 0)).2 || more) else (F, more)
def passF (E M : List Bool) : List gramL.Prod → List Nat → Bool → List Nat × Bool
  | [], F, more => (F, more)
  | p :: r, F, more => passF E M r (stepF E M p F more).1 (stepF E M p F more).2
/-! ### Follow -/
def stepW (E : List Bool) (F : List Nat) (h : Nat) (x : Sym) (r : List Sym) (W : List Nat) (more : Bool) : List Nat × Bool :=
  if x.1 = 2 then ((addF W x.2.toNat (beginF E F r (W.getD h 0))).1, (addF W x.2.toNat (beginF E F r (W.getD h 0))).2 || more) else (W, more)
def passWb (E : List Bool) (F : List Nat) (h : Nat) : List Sym → List Nat → Bool → List Nat × Bool
  | [], W, more => (W, more)
  | x :: r, W, more => passWb E F h r (stepW E F h x r W more).1 (stepW E F h x r W more).2
def passW (E : List Bool) (F : List Nat) : List gramL.Prod → List Nat → Bool → List Nat × Bool
  | [], W, more => (W, more)
  | p :: r, W, more => passW E F r (passWb E F p.1.toNat p.2 W more).1 (passWb E F p.1.toNat p.2 W more).2
/-- how much is missing -/
def lack (l : List Nat) : Nat := (l.map fun x => 18446744073709551616 - x).sum
def okW (n : Nat) (l : List Nat) : Prop := l.length = n ∧ ∀ x ∈ l, x < 18446744073709551616
theorem getD_lt {n : Nat} {l : List Nat} (h : okW n l) (i : Nat) : l.getD i 0 < 18446744073709551616 := by
  rw [List.getD_eq_getElem?_getD]
  cases e : l[i]? with
  | none => decide
  | some y => exact h.2 y (List.mem_of_getElem? e)
theorem or_lt64 {x y : Nat} (hx : x < 18446744073709551616) (hy : y < 18446744073709551616) : x ||| y < 18446744073709551616 := Nat.or_lt_two_pow (n := 64) hx hy
theorem addF_ok {n : Nat} {l : List Nat} {i b : Nat} (h : okW n l) (hb : b < 18446744073709551616) : okW n (addF l i b).1 := by
  refine ⟨by rw [addF_len]; exact h.1, fun x hx => ?_⟩
  rcases List.mem_or_eq_of_mem_set hx with h1 | rfl
  · exact h.2 x h1
  · exact or_lt64 (getD_lt h i) hb
theorem sum_set : ∀ (l : List Nat) (i : Nat) (y : Nat) (h : i < l.length), ((l.set i y).map fun x => 18446744073709551616 - x).sum + (18446744073709551616 - l[i]) = (l.map fun x => 18446744073709551616 - x).sum + (18446744073709551616 - y)
  | a :: r, 0, y, h => by simp; omega
  | a :: r, i + 1, y, h => by
    have := sum_set r i y (by simpa using h)
    simp at this ⊢; omega
theorem addF_lack {n : Nat} {l : List Nat} {i b : Nat} (h : okW n l) (hi : i < n) (hb : b < 18446744073709551616) : lack (addF l i b).1 ≤ lack l ∧ ((addF l i b).2 = true → lack (addF l i b).1 < lack l) := by
  have hil : i < l.length := by rw [h.1]; exact hi
  have hs := sum_set l i (l.getD i 0 ||| b) hil
  have e : l.getD i 0 = l[i] := by rw [List.getD_eq_getElem?_getD, List.getElem?_eq_getElem hil]; rfl
  have h1 : l[i] ≤ l.getD i 0 ||| b := by rw [e]; exact Nat.left_le_or
  have h2 := or_lt64 (getD_lt h i) hb
  have h3 := h.2 _ (List.getElem_mem hil)
  unfold lack addF
  dsimp only
  refine ⟨by omega, fun hc => ?_⟩
  simp only [Bool.not_eq_true', decide_eq_false_iff_not] at hc
  omega
theorem beginF_lt {E : List Bool} {F : List Nat} {n : Nat} {body : List Sym} {behind : Nat} (hF : okW n F) (hb : behind < 18446744073709551616) (hx : ∀ x ∈ body, x.1 = 1 → x.2.toNat < 64) : beginF E F body behind < 18446744073709551616 := by
  have key : ∀ (body : List Sym) (out : Nat), out < 18446744073709551616 → (∀ x ∈ body, x.1 = 1 → x.2.toNat < 64) → beginGo E F behind body out < 18446744073709551616 := by
    intro body
    induction body with
    | nil => intro out h _; exact or_lt64 h hb
    | cons x r ih =>
      intro out h hx
      unfold beginGo
      split
      · rename_i c
        have hp : (2 : Nat) ^ x.2.toNat < 2 ^ 64 := Nat.pow_lt_pow_right (by decide) (hx x (by simp) c)
        exact or_lt64 h (by simpa using hp)
      · split
        · exact ih _ (or_lt64 h (getD_lt hF _)) fun y hy => hx y (by simp [hy])
        · exact or_lt64 h (getD_lt hF _)
  exact key body 0 (by decide) hx
/-- what a grammar's productions are like -/
structure Fine (n : Nat) (l : List gramL.Prod) : Prop where
  head : ∀ p ∈ l, 0 ≤ p.1 ∧ p.1.toNat < n
  term : ∀ p ∈ l, ∀ x ∈ p.2, x.1 = 1 → 0 ≤ x.2 ∧ x.2.toNat < 64
  non : ∀ p ∈ l, ∀ x ∈ p.2, x.1 ≠ 1 → x.1 = 2 ∧ 0 ≤ x.2 ∧ x.2.toNat < n
theorem fine_of {g : Gram} {n : Nat} (h : checkG g = 0) (hn : g.nons = n) : Fine n g.prods := by
  obtain ⟨a, b, c, d, e, f⟩ := checkG_ok h
  refine ⟨fun p hp => ?_, fun p hp x hx hx1 => ?_, fun p hp x hx hx1 => ?_⟩
  · have := f p hp; omega
  · have := (f p hp).2.2.2 x hx
    unfold right at this
    rw [if_pos hx1] at this
    simp at this; omega
  · have := (f p hp).2.2.2 x hx
    unfold right at this
    rw [if_neg hx1] at this
    split at this
    · rename_i h2
      simp at this
      exact ⟨h2, by omega, by omega⟩
    · simp at this
theorem Fine.tail {n : Nat} {p : gramL.Prod} {l : List gramL.Prod} (h : Fine n (p :: l)) : Fine n l :=
  ⟨fun q hq => h.head q (by simp [hq]), fun q hq => h.term q (by simp [hq]), fun q hq => h.non q (by simp [hq])⟩
theorem passF_ok {E M : List Bool} {n : Nat} : ∀ (l : List gramL.Prod) (F : List Nat) (more : Bool), Fine n l → okW n F → okW n (passF E M l F more).1 ∧ lack (passF E M l F more).1 ≤ lack F ∧ ((passF E M l F more).2 = true → more = true ∨ lack (passF E M l F more).1 < lack F)
  | [], F, more, _, h => ⟨h, Nat.le_refl _, fun c => .inl c⟩
  | p :: r, F, more, hf, h => by
    have hb : beginF E F p.2 0 < 18446744073709551616 := beginF_lt h (by decide) fun x hx hx1 => (hf.term p (by simp) x hx hx1).2
    have hh := hf.head p (by simp)
    rw [passF]
    unfold stepF
    split
    · have h1 := addF_ok (i := p.1.toNat) h hb
      have h2 := addF_lack h hh.2 hb
      obtain ⟨k1, k2, k3⟩ := passF_ok r (addF F p.1.toNat (beginF E F p.2 0)).1 ((addF F p.1.toNat (beginF E F p.2 0)).2 || more) hf.tail h1
      refine ⟨k1, Nat.le_trans k2 h2.1, fun c => ?_⟩
      rcases k3 c with c2 | c2
      · rw [Bool.or_eq_true] at c2
        rcases c2 with c2 | c2
        · exact .inr (Nat.lt_of_le_of_lt k2 (h2.2 c2))
        · exact .inl c2
      · exact .inr (Nat.lt_of_lt_of_le c2 h2.1)
    · exact passF_ok r F more hf.tail h
theorem passWb_ok {E : List Bool} {F : List Nat} {n h : Nat} (hF : okW n F) (hh : h < n) : ∀ (body : List Sym) (W : List Nat) (more : Bool), (∀ x ∈ body, x.1 = 1 → x.2.toNat < 64) → (∀ x ∈ body, x.1 = 2 → x.2.toNat < n) → okW n W → okW n (passWb E F h body W more).1 ∧ lack (passWb E F h body W more).1 ≤ lack W ∧ ((passWb E F h body W more).2 = true → more = true ∨ lack (passWb E F h body W more).1 < lack W)
  | [], W, more, _, _, hW => ⟨hW, Nat.le_refl _, fun c => .inl c⟩
  | x :: r, W, more, ht, hx, hW => by
    have hb : beginF E F r (W.getD h 0) < 18446744073709551616 := beginF_lt hF (getD_lt hW h) fun y hy => ht y (by simp [hy])
    have tl := fun W more => passWb_ok (E := E) hF hh r W more (fun y hy => ht y (by simp [hy])) (fun y hy => hx y (by simp [hy]))
    rw [passWb]
    unfold stepW
    split
    · rename_i c0
      have h1 := addF_ok (i := x.2.toNat) hW hb
      have h2 := addF_lack hW (hx x (by simp) c0) hb
      obtain ⟨k1, k2, k3⟩ := tl (addF W x.2.toNat (beginF E F r (W.getD h 0))).1 ((addF W x.2.toNat (beginF E F r (W.getD h 0))).2 || more) h1
      refine ⟨k1, Nat.le_trans k2 h2.1, fun c => ?_⟩
      rcases k3 c with c2 | c2
      · rw [Bool.or_eq_true] at c2
        rcases c2 with c2 | c2
        · exact .inr (Nat.lt_of_le_of_lt k2 (h2.2 c2))
        · exact .inl c2
      · exact .inr (Nat.lt_of_lt_of_le c2 h2.1)
    · exact tl W more hW
theorem passW_ok {E : List Bool} {F : List Nat} {n : Nat} (hF : okW n F) : ∀ (l : List gramL.Prod) (W : List Nat) (more : Bool), Fine n l → okW n W → okW n (passW E F l W more).1 ∧ lack (passW E F l W more).1 ≤ lack W ∧ ((passW E F l W more).2 = true → more = true ∨ lack (passW E F l W more).1 < lack W)
  | [], W, more, _, h => ⟨h, Nat.le_refl _, fun c => .inl c⟩
  | p :: r, W, more, hf, h => by
    rw [passW]
    obtain ⟨a1, a2, a3⟩ := passWb_ok (E := E) hF (hf.head p (by simp)).2 p.2 W more (fun x hx h1 => (hf.term p (by simp) x hx h1).2) (fun x hx h2 => (hf.non p (by simp) x hx (by omega)).2.2) h
    obtain ⟨k1, k2, k3⟩ := passW_ok hF r (passWb E F p.1.toNat p.2 W more).1 (passWb E F p.1.toNat p.2 W more).2 hf.tail a1
    refine ⟨k1, Nat.le_trans k2 a2, fun c => ?_⟩
    rcases k3 c with c2 | c2
    · rcases a3 c2 with c3 | c3
      · exact .inl c3
      · exact .inr (Nat.lt_of_le_of_lt k2 c3)
    · exact .inr (Nat.lt_of_lt_of_le c2 a2)
theorem fallsF {E M : List Bool} {n : Nat} {l : List gramL.Prod} (hf : Fine n l) : Falls (fun F => passF E M l F false) (okW n) lack :=
  ⟨fun s hs => (passF_ok l s false hf hs).1, fun s hs c => by
    rcases (passF_ok (E := E) (M := M) l s false hf hs).2.2 c with h | h
    · cases h
    · exact h⟩
theorem fallsW {E : List Bool} {F : List Nat} {n : Nat} {l : List gramL.Prod} (hF : okW n F) (hf : Fine n l) : Falls (fun W => passW E F l W false) (okW n) lack :=
  ⟨fun s hs => (passW_ok hF l s false hf hs).1, fun s hs c => by
    rcases (passW_ok (E := E) hF l s false hf hs).2.2 c with h | h
    · cases h
    · exact h⟩
end Go.Proofs.Ytomkjjpdnmcnnaa.factsL

/- FactsD -/
namespace Go.Proofs.Ytomkjjpdnmcnnaa.eng
open Go.RowKit kit mix gramL factsL
def rowNn (n g c : Nat) (l : List Nat) : Own := rowO 70 1 (.slice (some ⟨g, 0, none⟩) n c) n (l.map bitV)
theorem add2_calls (n g cap : Nat) (l : List Nat) (i b : Nat) (w : World) (B : Base) (hl : okW n l) (hi : i < n) (hb : b < 18446744073709551616) (hm : Mem B [rowNn n g cap l] w) :
    Calls Try.prog 42 #[.slice (some ⟨g, 0, none⟩) n cap, .int .i64 (i : Int), bitV b] w (MeetsB ⟨fun (_ : Unit) => True, fun _ => .bool (addF l i b).2, fun _ => [rowNn n g cap (addF l i b).1]⟩ B) := by
  obtain ⟨rfl, h64⟩ := hl
  exact add_calls g cap l i b w B hi h64 hb hm
structure Rows4 where
  gE : Nat
  cE : Nat
  gF : Nat
  cF : Nat
  gW : Nat
  cW : Nat
  gM : Nat
  cM : Nat
theorem passF_cons (E M : List Bool) (p : gramL.Prod) (r : List gramL.Prod) (F : List Nat) (more : Bool) : passF E M (p :: r) F more = passF E M r (stepF E M p F more).1 (stepF E M p F more).2 := rfl
theorem passW_cons (E : List Bool) (F : List Nat) (p : gramL.Prod) (r : List gramL.Prod) (W : List Nat) (more : Bool) : passW E F (p :: r) W more = passW E F r (passWb E F p.1.toNat p.2 W more).1 (passWb E F p.1.toNat p.2 W more).2 := rfl
theorem passWb_cons (E : List Bool) (F : List Nat) (h : Nat) (x : Sym) (r : List Sym) (W : List Nat) (more : Bool) : passWb E F h (x :: r) W more = passWb E F h r (stepW E F h x r W more).1 (stepW E F h x r W more).2 := rfl
def setsF (E M : List Bool) (l : List gramL.Prod) (F : List Nat) : List Nat := factsL.fix (fun F => passF E M l F false) lack F
def setsW (E : List Bool) (F : List Nat) (l : List gramL.Prod) (W : List Nat) : List Nat := factsL.fix (fun W => passW E F l W false) lack W
set_option maxHeartbeats 8000000 in
theorem sets_calls (w0 : World) (v : Value) (g : Gram) (h : GraR (fun k => k < w0.heap.size) w0 v g) (hck : checkG g = 0) (n : Nat) (hn : g.nons = n) (x : Rows4) (vR : Value) (E : List Bool) (F W : List Nat) (M : List Bool) (hE : E.length = n) (hF : okW n F) (hW : okW n W) (hM : M.length = n) (w : World) (B : Base) (ho : Old w0 B) (hm : Mem B [rowBn n x.gE x.cE E, rowNn n x.gF x.cF F, rowNn n x.gW x.cW W, rowBn n x.gM x.cM M] w) :
    Calls Try.prog 25 #[v, facV (vRow n x.gE x.cE) (vRow n x.gF x.cF) (vRow n x.gW x.cW) vR (vRow n x.gM x.cM)] w (MeetsB ⟨fun (_ : Unit) => True, fun _ => .tuple #[], fun _ => [rowBn n x.gE x.cE E, rowNn n x.gF x.cF (setsF E M g.prods F), rowNn n x.gW x.cW (setsW E (setsF E M g.prods F) g.prods W), rowBn n x.gM x.cM M]⟩ B) := by
  obtain ⟨gE, cE, gF, cF, gW, cW, gM, cM⟩ := x
  dsimp only at *
  have hfine := fine_of hck hn
  obtain ⟨_, _, _, _, hlen, _⟩ := checkG_ok hck
  obtain ⟨vp, rfl, h1, _⟩ := h
  obtain ⟨bp, cp, rfl, hcp, hmp, hrp⟩ := h1
  unfold maxLen at hmp
  obtain ⟨t, nn, prods⟩ := g
  dsimp only at *
  subst hn
  have hfalls := fallsF (E := E) (M := M) hfine
  refine enterB hm (args := [graV t (n : Int) (.slice bp prods.length cp), facV (vRow n gE cE) (vRow n gF cF) (vRow n gW cW) vR (vRow n gM cM)]) (n := 80) Try.func25 rfl rfl rfl ?_
  refine T_seq (T_region (TL_box rfl rfl rfl fun g2 => TL_box rfl rfl rfl fun g3 => ?_))
  conv=>arg 8;simp only[zA,zB,zC,zD,zE,zF,zG,zH,zI,rowS,ret,id_eq]
  repeat(first|refine QV QP ?_|refine QZ ?_|refine qcT rfl ?_|refine qcF rfl ?_|refine E_blockX ?_|refine E_blockO rfl ?_|refine qs rfl rfl rfl rfl rfl rfl ?_|((try refine qg rfl rfl rfl ?_);first|refine QV QP ?_|refine QV QL ?_|refine QV QA ?_|refine QV QlT ?_|refine QV QlF ?_|refine QV QeT ?_|refine QV QeF ?_|refine QV QaA ?_))
  generalize hfin : setsF E M prods F = fin
  refine T_loop (ι := List Nat × Bool) (fun (F, more) => okW n F ∧ (more = true → setsF E M prods F = fin) ∧ (more = false → F = fin)) (fun (_, more) => [(2, .pointer (some ⟨g2, 0, none⟩)), (3, .pointer (some ⟨g3, 0, none⟩)), (4, .bool more)])
    (fun (F, _) => [rowBn n gE cE E, rowNn n gF cF F, rowNn n gW cW W, rowBn n gM cM M, blkO g2 (graV t (n : Int) (.slice bp prods.length cp)).cells 24, blkO g3 (facV (vRow n gE cE) (vRow n gF cF) (vRow n gW cW) vR (vRow n gM cM)).cells 34]) (fun (F, more) => 2 * lack F + (if more = true then 1 else 0)) (F, true) ⟨hF, fun _ => hfin, fun h => by cases h⟩ (by repeat' (first | exact True.intro | refine And.intro rfl ?_)) rfl ?_
  clear hm hF hfin
  rintro ⟨F, more⟩ ⟨i1, i2, i3⟩
  dsimp only at i1 i2 i3 ⊢
  cases more
  · have i3 := i3 rfl
    subst i3
    clear i2 hfalls
    have hfalls := fallsW (E := E) i1 hfine
    repeat(first|refine QV QP ?_|refine QZ ?_|refine qcT rfl ?_|refine qcF rfl ?_|refine E_blockX ?_|refine E_blockO rfl ?_|refine qs rfl rfl rfl rfl rfl rfl ?_|((try refine qg rfl rfl rfl ?_);first|refine QV QP ?_|refine QV QL ?_|refine QV QA ?_|refine QV QlT ?_|refine QV QlF ?_|refine QV QeT ?_|refine QV QeF ?_|refine QV QaA ?_))
    generalize hfin : setsW E F prods W = fin
    refine T_loop (ι := List Nat × Bool) (fun (W, more) => okW n W ∧ (more = true → setsW E F prods W = fin) ∧ (more = false → W = fin)) (fun (_, more) => [(2, .pointer (some ⟨g2, 0, none⟩)), (3, .pointer (some ⟨g3, 0, none⟩)), (7, .bool more)])
      (fun (W, _) => [rowBn n gE cE E, rowNn n gF cF F, rowNn n gW cW W, rowBn n gM cM M, blkO g2 (graV t (n : Int) (.slice bp prods.length cp)).cells 24, blkO g3 (facV (vRow n gE cE) (vRow n gF cF) (vRow n gW cW) vR (vRow n gM cM)).cells 34]) (fun (W, more) => 2 * lack W + (if more = true then 1 else 0)) (W, true) ⟨hW, fun _ => hfin, fun h => by cases h⟩ (by repeat' (first | exact True.intro | refine And.intro rfl ?_)) rfl ?_
    clear hfin hW
    clear W
    rintro ⟨W, more⟩ ⟨j1, j2, j3⟩
    dsimp only at j1 j2 j3 ⊢
    cases more
    · have j3 := j3 rfl
      subst j3
      repeat(first|refine QV QP ?_|refine QZ ?_|refine qcT rfl ?_|refine qcF rfl ?_|refine E_blockX ?_|refine E_blockO rfl ?_|refine qs rfl rfl rfl rfl rfl rfl ?_|((try refine qg rfl rfl rfl ?_);first|refine QV QP ?_|refine QV QL ?_|refine QV QA ?_|refine QV QlT ?_|refine QV QlF ?_|refine QV QeT ?_|refine QV QeF ?_|refine QV QaA ?_))
      exact E_end0 rfl fun w hm => hm.meetsB (S := ⟨fun (_ : Unit) => True, fun _ => .tuple #[], fun _ => [rowBn n gE cE E, rowNn n gF cF F, rowNn n gW cW W, rowBn n gM cM M]⟩) () trivial [0, 1, 2, 3] (by decide) rfl
    · have j2 := j2 rfl
      clear j3
      have hdone : ∀ W' m', passW E F prods W false = (W', m') → okW n W' ∧ (m' = true → setsW E F prods W' = fin) ∧ (m' = false → W' = fin) ∧ 2 * lack W' + (if m' = true then 1 else 0) < 2 * lack W + 1 := fun W' m' hp => by
        have hk := passW_ok (E := E) i1 prods W false hfine j1
        rw [hp] at hk
        dsimp only at hk
        refine ⟨hk.1, fun c => ?_, fun c => ?_, ?_⟩
        · rw [← j2]
          unfold setsW
          rw [fix_go hfalls j1 (by rw [hp]; exact c), hp]
        · rw [← j2]
          unfold setsW
          rw [fix_stop (by rw [hp]; exact c), hp]
        · have h2 := hk.2.2
          cases m'
          · have := hk.2.1; simp; omega
          · rcases h2 rfl with h | h
            · cases h
            · simp; omega
      repeat(first|refine QV QP ?_|refine QZ ?_|refine qcT rfl ?_|refine qcF rfl ?_|refine E_blockX ?_|refine E_blockO rfl ?_|refine qs rfl rfl rfl rfl rfl rfl ?_|((try refine qg rfl rfl rfl ?_);first|refine QV QP ?_|refine QV (rr_load1 TyC.ty rfl (at_blk (i := 4) rfl rfl)) ?_|refine QV QL ?_|refine QV QA ?_|refine QV QlT ?_|refine QV QlF ?_|refine QV QeT ?_|refine QV QeF ?_|refine QV QaA ?_))
      generalize hfp : passW E F prods W false = fp at *
      obtain ⟨Wx, mx⟩ := fp
      have hdone := hdone Wx mx rfl
      refine T_loop (ι := Nat × List Nat × Bool) (fun (k, W, m) => k ≤ prods.length ∧ okW n W ∧ passW E F (prods.drop k) W m = (Wx, mx)) (fun (k, _, m) => [(2, .pointer (some ⟨g2, 0, none⟩)), (3, .pointer (some ⟨g3, 0, none⟩)), (7, .bool m), (40, .slice bp prods.length cp), (41, .int .i64 prods.length), (42, .int .i64 (k : Int))])
        (fun (_, W, _) => [rowBn n gE cE E, rowNn n gF cF F, rowNn n gW cW W, rowBn n gM cM M, blkO g2 (graV t (n : Int) (.slice bp prods.length cp)).cells 24, blkO g3 (facV (vRow n gE cE) (vRow n gF cF) (vRow n gW cW) vR (vRow n gM cM)).cells 34]) (fun (k, _, _) => prods.length - k) (0, W, false) ⟨Nat.zero_le _, j1, hfp⟩ (by repeat' (first | exact True.intro | refine And.intro rfl ?_)) rfl ?_
      clear hfp j2
      rintro ⟨k, W', m⟩ ⟨k1, k2, k3⟩
      dsimp only at k1 k2 k3 ⊢
      by_cases c6 : k < prods.length
      · obtain ⟨b, off, rfl, _, hr⟩ := hrp (by omega)
        obtain ⟨bb, cb, q1, q2, q3⟩ := prod_at hr c6
        have hp1 := hfine.head prods[k] (List.getElem_mem c6)
        have hp2 := hfine.term prods[k] (List.getElem_mem c6)
        have hp3 := hfine.non prods[k] (List.getElem_mem c6)
        rw [List.drop_eq_getElem_cons c6, passW_cons] at k3
        have hat : ∀ (L : List Own) (j : Nat) (v : Value), ([.int .i64 prods[k].1, .slice bb prods[k].2.length cb] : List Value)[j]? = some v → At B L ⟨b, off + k * 2 + j, none⟩ v := fun L j v hj => at_old0 ho (q1 j v hj)
        have hfl := q3.flat (by decide)
        clear hr hrp q1 q3
        generalize prods[k] = p at *
        obtain ⟨hd, body⟩ := p
        dsimp only at *
        obtain ⟨hn, rfl⟩ : ∃ hn : Nat, hd = hn := ⟨hd.toNat, by omega⟩
        rw [Int.toNat_natCast] at hp1 k3
        have hsb : ∀ w' L, Mem B L w' → Sl w' (.slice bb body.length cb) body.length (body.flatMap symC) := fun w' L hm => hfl.gr (ho.mem hm)
        obtain ⟨bb2, cb2, he, h4, h5, h6⟩ := hfl
        simp only [Value.slice.injEq, true_and] at he
        obtain ⟨rfl, rfl⟩ := he
        unfold maxLen at h5
        repeat(first|refine QV QP ?_|refine QZ ?_|refine qcT rfl ?_|refine qcF rfl ?_|refine E_blockX ?_|refine E_blockO rfl ?_|refine qs rfl rfl rfl rfl rfl rfl ?_|((try refine qg rfl rfl rfl ?_);first|refine QV QP ?_|refine QV (rr_idxc Und.eq TyC.ty rfl rfl c6) ?_|refine QV (rr_loadN TyC.ty rfl rfl (hat _)) ?_|refine QV QL ?_|refine QV QA ?_|refine QV QlT ?_|refine QV QlF ?_|refine QV QeT ?_|refine QV QeF ?_|refine QV QaA ?_))
        clear hat
        refine TL_new rfl fun g9 => ?_
        refine TL_storeB (i := 6) rfl rfl rfl rfl rfl rfl ?_
        conv=>arg 8;simp only[zA,zB,zC,zD,zE,zF,zG,zH,zI,rowS,ret,id_eq]
        repeat(first|refine QV QP ?_|refine QZ ?_|refine qcT rfl ?_|refine qcF rfl ?_|refine E_blockX ?_|refine E_blockO rfl ?_|refine qs rfl rfl rfl rfl rfl rfl ?_|((try refine qg rfl rfl rfl ?_);first|refine QV QP ?_|refine QV (rr_load1 TyC.ty rfl (at_blk (i := 6) rfl rfl)) ?_|refine QV QL ?_|refine QV QA ?_|refine QV QlT ?_|refine QV QlF ?_|refine QV QeT ?_|refine QV QeF ?_|refine QV QaA ?_))
        refine T_loop (ι := Nat × List Nat × Bool) (fun (j, W, m) => j ≤ body.length ∧ okW n W ∧ passW E F (prods.drop (k + 1)) (passWb E F hn (body.drop j) W m).1 (passWb E F hn (body.drop j) W m).2 = (Wx, mx)) (fun (j, _, m) => [(2, .pointer (some ⟨g2, 0, none⟩)), (3, .pointer (some ⟨g3, 0, none⟩)), (7, .bool m), (9, .pointer (some ⟨g9, 0, none⟩)), (40, .slice (some ⟨b, off, none⟩) prods.length cp), (41, .int .i64 prods.length), (42, .int .i64 (k : Int)), (47, .slice bb body.length cb), (48, .int .i64 body.length), (49, .int .i64 (j : Int))])
          (fun (_, W, _) => [rowBn n gE cE E, rowNn n gF cF F, rowNn n gW cW W, rowBn n gM cM M, blkO g2 (graV t (n : Int) (.slice (some ⟨b, off, none⟩) prods.length cp)).cells 24, blkO g3 (facV (vRow n gE cE) (vRow n gF cF) (vRow n gW cW) vR (vRow n gM cM)).cells 34, blkO g9 #[.int .i64 (hn : Int), .slice bb body.length cb] 57]) (fun (j, _, _) => body.length - j) (0, W', m) ⟨Nat.zero_le _, k2, k3⟩ (by repeat' (first | exact True.intro | refine And.intro rfl ?_)) rfl ?_
        clear k2 k3
        rintro ⟨j, W2, m2⟩ ⟨k2, k3, k4⟩
        dsimp only at k2 k3 k4 ⊢
        by_cases c7 : j < body.length
        · obtain ⟨b2, off2, rfl, hr2⟩ := h6 (by omega)
          have hat2 := at_elL (W := B) (L := [rowBn n gE cE E, rowNn n gF cF F, rowNn n gW cW W2, rowBn n gM cM M, blkO g2 (graV t (n : Int) (.slice (some ⟨b, off, none⟩) prods.length cp)).cells 24, blkO g3 (facV (vRow n gE cE) (vRow n gF cF) (vRow n gW cW) vR (vRow n gM cM)).cells 34, blkO g9 #[.int .i64 (hn : Int), .slice (some ⟨b2, off2, none⟩) body.length cb] 57]) SymS_len (fun q x hq => at_old0 ho (hr2 q x hq)) c7
          have hx3 := hp3 body[j] (List.getElem_mem c7)
          have hsub : ∀ w' L, Mem B L w' → Sl w' (subV (some ⟨b2, off2, none⟩) cb 2 (j + 1) body.length) (body.drop (j + 1)).length ((body.drop (j + 1)).flatMap symC) := fun w' L hm => by
            have := sl_sub SymS_len (hsb w' L hm) (i := j + 1) (j := body.length) (by omega) (Nat.le_refl _)
            rwa [List.take_of_length_le (by simp)] at this
          have hbl : beginF E F (body.drop (j + 1)) (W2.getD hn 0) < 18446744073709551616 := beginF_lt i1 (getD_lt k3 _) fun x hx h => (hp2 x (List.mem_of_mem_drop hx) h).2
          have hbg := fun w' L (hm : Mem B L w') (hx : Sl w' (vRow n gE cE) E.length (E.map .bool)) (hy : Sl w' (vRow n gF cF) F.length (F.map bitV)) => begin_calls (vRow n gE cE) (vRow n gF cF) (vRow n gW cW) vR (vRow n gM cM) _ E F (body.drop (j + 1)) (W2.getD hn 0) w' hx hy (hsub w' L hm) (by rw [hE, i1.1]) (fun x hx => ⟨fun h => by have := hp2 x (List.mem_of_mem_drop hx) h; omega, fun h => by have := hp3 x (List.mem_of_mem_drop hx) h; rw [i1.1]; omega⟩) i1.2 (getD_lt k3 _)
          rw [hE, i1.1] at hbg
          have hcW : (W2.map bitV)[hn]? = some (bitV (W2.getD hn 0)) := bit_at (by rw [k3.1]; exact hp1.2)
          rw [List.drop_eq_getElem_cons c7, passWb_cons] at k4
          generalize body[j] = x at *
          obtain ⟨q, mn⟩ := x
          dsimp only at hx3
          unfold stepW at k4
          dsimp only at k4
          generalize W2.getD hn 0 = bh at *
          generalize beginF E F (body.drop (j + 1)) bh = bg at *
          repeat(first|refine QV QP ?_|refine QZ ?_|refine qcT rfl ?_|refine qcF rfl ?_|refine E_blockX ?_|refine E_blockO rfl ?_|refine qs rfl rfl rfl rfl rfl rfl ?_|((try refine qg rfl rfl rfl ?_);first|refine QV QP ?_|refine QV (rr_idxc Und.eq TyC.ty rfl rfl c7) ?_|refine QV (rr_loadN TyC.ty rfl rfl hat2) ?_|refine QV QL ?_|refine QV QA ?_|refine QV QlT ?_|refine QV QlF ?_|refine QV QeT ?_|refine QV QeF ?_|refine QV QaA ?_))
          clear hat2 hr2
          refine TL_new rfl fun g11 => ?_
          conv=>arg 8;simp only[zA,zB,zC,zD,zE,zF,zG,zH,zI,rowS,ret,id_eq]
          repeat(first|refine QV QP ?_|refine QZ ?_|refine qcT rfl ?_|refine qcF rfl ?_|refine E_blockX ?_|refine E_blockO rfl ?_|refine qs rfl rfl rfl rfl rfl rfl ?_|((try refine qg rfl rfl rfl ?_);first|refine QV QP ?_|refine QV QL ?_|refine QV QA ?_|refine QV QlT ?_|refine QV QlF ?_|refine QV QeT ?_|refine QV QeF ?_|refine QV QaA ?_))
          refine TL_storeB (i := 7) rfl rfl rfl rfl rfl rfl ?_
          conv=>arg 8;simp only[zA,zB,zC,zD,zE,zF,zG,zH,zI,rowS,ret,id_eq]
          by_cases c1 : q = 2
          · rw [if_pos c1] at k4
            obtain ⟨_, o1, o2⟩ := hx3 (by omega)
            subst c1
            obtain ⟨mm, rfl⟩ : ∃ mm : Nat, mn = mm := ⟨mn.toNat, by omega⟩
            rw [Int.toNat_natCast] at k4 o2
            have hok2 := addF_ok (i := mm) k3 hbl
            have hadd := fun w' B' hm => add2_calls n gW cW W2 mm bg w' B' k3 o2 hbl hm
            generalize addF W2 mm bg = ad at *
            obtain ⟨W3, ch⟩ := ad
            dsimp only at k4 hok2 hadd
            repeat(first|refine QV QP ?_|refine QZ ?_|refine qcT rfl ?_|refine qcF rfl ?_|refine E_blockX ?_|refine E_blockO rfl ?_|refine qs rfl rfl rfl rfl rfl rfl ?_|((try refine qg rfl rfl rfl ?_);first|refine QV QP ?_|refine QV (rr_load1 TyC.ty rfl (at_blk (i := 7) rfl rfl)) ?_|refine QV QL ?_|refine QV QA ?_|refine QV QlT ?_|refine QV QlF ?_|refine QV QeT ?_|refine QV QeF ?_|refine QV QaA ?_))
            refine T_ord ([blkO g3 (facV (vRow n gE cE) (vRow n gF cF) (vRow n gW cW) vR (vRow n gM cM)).cells 34, blkO g9 #[.int .i64 (hn : Int), .slice (some ⟨b2, off2, none⟩) body.length cb] 57, blkO g11 #[.int .i64 2, .int .i64 (mm : Int)] 60]) (.calm 0 (.calm 1 (.calm 2 (.calm 3 (.calm 4 (.calm 5 (.calm 6 (.calm 7 (.calm 8 (.calm 9 (.calm 10 (.calm 11 (.calm 12 (.calm 13 (.calm 14 (.one 15 (.one 16 (.one 17 (.calm 18 (.calm 19 (.calm 20 (.calm 21 (.done))))))))))))))))))))))) (sub_pick [5, 6, 7] (by decide) rfl) (by kernel_rfl) (by kernel_rfl) (by intro c a d v w h; cases d <;> exact h) ?_
            repeat(first|((first|refine TW_plain rfl rfl ?_|refine TW_gmet rfl rfl rfl rfl ?_);first|refine QW QP ?_|refine QW (rr_load1 TyC.ty rfl (at_blk (i := 0) rfl rfl)) ?_|refine QW (rr_load1 TyC.ty rfl (at_blk (i := 1) rfl rfl)) ?_|refine QW (rr_load1 TyC.ty rfl (at_blk (i := 2) rfl rfl)) ?_|refine QW (rr_loadB (i := 0) TyC.ty rfl rfl rfl) ?_|refine QW (rr_slfrom (i := j + 1) Und.eq TyC.ty rfl rfl c7 h4) ?_|refine QW (rr_idx1 Und.eq TyC.ty rfl rfl hp1.2) ?_|refine QW QL ?_|refine QW QA ?_|refine QW QlT ?_|refine QW QlF ?_|refine QW QeT ?_|refine QW QeF ?_|refine QW QaA ?_)|refine TW_skip rfl rfl rfl rfl rfl rfl rfl ?_|refine TW_done ?_)
            refine TW_one rfl ?_
            refine TL_val (rr_load1 TyC.ty rfl (at_row (i := 2) rfl (by rw [Nat.zero_add]; exact hcW))) rfl rfl rfl ?_
            refine TW_on (sub_pick [5, 6, 7] (by decide) rfl) ?_
            refine TW_one rfl ?_
            refine TL_call (he3 EntersC.en rfl rfl rfl rfl) (fun w hm => hbg _ _ hm (sl_row (i := 0) rfl w hm) (sl_row (i := 1) rfl w hm)) rfl rfl rfl ?_
            intro _ _
            conv=>arg 8;simp only[zA,zB,zC,zD,zE,zF,zG,zH,zI,rowS,ret,id_eq]
            refine TW_on (sub_pick [5, 6, 7] (by decide) rfl) ?_
            refine TW_one rfl ?_
            refine TL_callB [2] [0, 1, 3, 4, 5, 6, 7] (by decide) rfl rfl (he3 EntersC.en rfl rfl rfl rfl) (fun w hm hb => hadd w _ hb) rfl rfl rfl ?_
            intro _ _
            conv=>arg 8;simp only[zA,zB,zC,zD,zE,zF,zG,zH,zI,rowS,ret,id_eq]
            refine TW_on (sub_pick [4, 5, 6] (by decide) rfl) ?_
            cases ch
            · repeat(first|((first|refine TW_plain rfl rfl ?_|refine TW_gmet rfl rfl rfl rfl ?_);first|refine QW QP ?_|refine QW QL ?_|refine QW QA ?_|refine QW QlT ?_|refine QW QlF ?_|refine QW QeT ?_|refine QW QeF ?_|refine QW QaA ?_)|refine TW_skip rfl rfl rfl rfl rfl rfl rfl ?_|refine TW_done ?_)
              repeat(first|refine QV QP ?_|refine QZ ?_|refine qcT rfl ?_|refine qcF rfl ?_|refine E_blockX ?_|refine E_blockO rfl ?_|refine qs rfl rfl rfl rfl rfl rfl ?_|((try refine qg rfl rfl rfl ?_);first|refine QV QP ?_|refine QV QL ?_|refine QV QA ?_|refine QV QlT ?_|refine QV QlF ?_|refine QV QeT ?_|refine QV QeF ?_|refine QV QaA ?_))
              refine E_pick [0, 1, 7, 2, 3, 4, 5] (by decide) rfl ?_
              exact E_round (j + 1, W3, false || m2) ⟨by omega, hok2, k4⟩ (by show body.length - (j + 1) < body.length - j; omega) (by repeat' (first | exact True.intro | refine And.intro rfl ?_)) rfl
            · repeat(first|((first|refine TW_plain rfl rfl ?_|refine TW_gmet rfl rfl rfl rfl ?_);first|refine QW QP ?_|refine QW QL ?_|refine QW QA ?_|refine QW QlT ?_|refine QW QlF ?_|refine QW QeT ?_|refine QW QeF ?_|refine QW QaA ?_)|refine TW_skip rfl rfl rfl rfl rfl rfl rfl ?_|refine TW_done ?_)
              repeat(first|refine QV QP ?_|refine QZ ?_|refine qcT rfl ?_|refine qcF rfl ?_|refine E_blockX ?_|refine E_blockO rfl ?_|refine qs rfl rfl rfl rfl rfl rfl ?_|((try refine qg rfl rfl rfl ?_);first|refine QV QP ?_|refine QV QL ?_|refine QV QA ?_|refine QV QlT ?_|refine QV QlF ?_|refine QV QeT ?_|refine QV QeF ?_|refine QV QaA ?_))
              refine E_pick [0, 1, 7, 2, 3, 4, 5] (by decide) rfl ?_
              exact E_round (j + 1, W3, true || m2) ⟨by omega, hok2, k4⟩ (by show body.length - (j + 1) < body.length - j; omega) (by repeat' (first | exact True.intro | refine And.intro rfl ?_)) rfl
          · rw [if_neg c1] at k4
            repeat(first|refine QV QP ?_|refine QZ ?_|refine qcT rfl ?_|refine qcF rfl ?_|refine E_blockX ?_|refine E_blockO rfl ?_|refine qs rfl rfl rfl rfl rfl rfl ?_|((try refine qg rfl rfl rfl ?_);first|refine QV QP ?_|refine QV (rr_load1 TyC.ty rfl (at_blk (i := 7) rfl rfl)) ?_|refine QV QL ?_|refine QV QA ?_|refine QV QlT ?_|refine QV QlF ?_|refine QV QeT ?_|refine QV QeF ?_|refine QV QaA ?_))
            refine E_pick [0, 1, 2, 3, 4, 5, 6] (by decide) rfl ?_
            exact E_round (j + 1, W2, m2) ⟨c7, k3, k4⟩ (by show body.length - (j + 1) < body.length - j; omega) (by repeat' (first | exact True.intro | refine And.intro rfl ?_)) rfl
        · rw [show body.drop j = [] from List.drop_of_length_le (by omega)] at k4
          repeat(first|refine QV QP ?_|refine QZ ?_|refine qcT rfl ?_|refine qcF rfl ?_|refine E_blockX ?_|refine E_blockO rfl ?_|refine qs rfl rfl rfl rfl rfl rfl ?_|((try refine qg rfl rfl rfl ?_);first|refine QV QP ?_|refine QV QL ?_|refine QV QA ?_|refine QV QlT ?_|refine QV QlF ?_|refine QV QeT ?_|refine QV QeF ?_|refine QV QaA ?_))
          refine E_pick [0, 1, 2, 3, 4, 5] (by decide) rfl ?_
          exact E_round (k + 1, W2, m2) ⟨by omega, k3, k4⟩ (by show prods.length - (k + 1) < prods.length - k; omega) (by repeat' (first | exact True.intro | refine And.intro rfl ?_)) rfl
      · rw [List.drop_of_length_le (by omega)] at k3
        have k3 : (W', m) = (Wx, mx) := k3
        simp only [Prod.mk.injEq] at k3
        obtain ⟨rfl, rfl⟩ := k3
        obtain ⟨d1, d2, d3, d4⟩ := hdone
        repeat(first|refine QV QP ?_|refine QZ ?_|refine qcT rfl ?_|refine qcF rfl ?_|refine E_blockX ?_|refine E_blockO rfl ?_|refine qs rfl rfl rfl rfl rfl rfl ?_|((try refine qg rfl rfl rfl ?_);first|refine QV QP ?_|refine QV QL ?_|refine QV QA ?_|refine QV QlT ?_|refine QV QlF ?_|refine QV QeT ?_|refine QV QeF ?_|refine QV QaA ?_))
        exact E_round (W', m) ⟨d1, d2, d3⟩ d4 (by repeat' (first | exact True.intro | refine And.intro rfl ?_)) rfl
  · have i2 := i2 rfl
    clear i3
    have hdone : ∀ F' m', passF E M prods F false = (F', m') → okW n F' ∧ (m' = true → setsF E M prods F' = fin) ∧ (m' = false → F' = fin) ∧ 2 * lack F' + (if m' = true then 1 else 0) < 2 * lack F + 1 := fun F' m' hp => by
      have hk := passF_ok (E := E) (M := M) prods F false hfine i1
      rw [hp] at hk
      dsimp only at hk
      refine ⟨hk.1, fun c => ?_, fun c => ?_, ?_⟩
      · rw [← i2]
        unfold setsF
        rw [fix_go hfalls i1 (by rw [hp]; exact c), hp]
      · rw [← i2]
        unfold setsF
        rw [fix_stop (by rw [hp]; exact c), hp]
      · have h2 := hk.2.2
        cases m'
        · have := hk.2.1; simp; omega
        · rcases h2 rfl with h | h
          · cases h
          · simp; omega
    repeat(first|refine QV QP ?_|refine QZ ?_|refine qcT rfl ?_|refine qcF rfl ?_|refine E_blockX ?_|refine E_blockO rfl ?_|refine qs rfl rfl rfl rfl rfl rfl ?_|((try refine qg rfl rfl rfl ?_);first|refine QV QP ?_|refine QV (rr_load1 TyC.ty rfl (at_blk (i := 4) rfl rfl)) ?_|refine QV QL ?_|refine QV QA ?_|refine QV QlT ?_|refine QV QlF ?_|refine QV QeT ?_|refine QV QeF ?_|refine QV QaA ?_))
    generalize hfp : passF E M prods F false = fp at *
    obtain ⟨Fx, mx⟩ := fp
    have hdone := hdone Fx mx rfl
    refine T_loop (ι := Nat × List Nat × Bool) (fun (k, F, m) => k ≤ prods.length ∧ okW n F ∧ passF E M (prods.drop k) F m = (Fx, mx)) (fun (k, _, m) => [(2, .pointer (some ⟨g2, 0, none⟩)), (3, .pointer (some ⟨g3, 0, none⟩)), (4, .bool m), (14, .slice bp prods.length cp), (15, .int .i64 prods.length), (16, .int .i64 (k : Int))])
      (fun (_, F, _) => [rowBn n gE cE E, rowNn n gF cF F, rowNn n gW cW W, rowBn n gM cM M, blkO g2 (graV t (n : Int) (.slice bp prods.length cp)).cells 24, blkO g3 (facV (vRow n gE cE) (vRow n gF cF) (vRow n gW cW) vR (vRow n gM cM)).cells 34]) (fun (k, _, _) => prods.length - k) (0, F, false) ⟨Nat.zero_le _, i1, hfp⟩ (by repeat' (first | exact True.intro | refine And.intro rfl ?_)) rfl ?_
    clear hfp i2
    rintro ⟨k, F', m⟩ ⟨j1, j2, j3⟩
    dsimp only at j1 j2 j3 ⊢
    by_cases c6 : k < prods.length
    · obtain ⟨b, off, rfl, _, hr⟩ := hrp (by omega)
      obtain ⟨bb, cb, q1, q2, q3⟩ := prod_at hr c6
      have hp1 := hfine.head prods[k] (List.getElem_mem c6)
      have hp2 := hfine.term prods[k] (List.getElem_mem c6)
      have hp3 := hfine.non prods[k] (List.getElem_mem c6)
      rw [List.drop_eq_getElem_cons c6, passF_cons] at j3
      have hat : ∀ (L : List Own) (j : Nat) (v : Value), ([.int .i64 prods[k].1, .slice bb prods[k].2.length cb] : List Value)[j]? = some v → At B L ⟨b, off + k * 2 + j, none⟩ v := fun L j v hj => at_old0 ho (q1 j v hj)
      have hfl := q3.flat (by decide)
      clear hr hrp q1 q3
      generalize prods[k] = p at *
      obtain ⟨hd, body⟩ := p
      dsimp only at *
      obtain ⟨hn, rfl⟩ : ∃ hn : Nat, hd = hn := ⟨hd.toNat, by omega⟩
      rw [Int.toNat_natCast] at hp1
      have hsb : ∀ w' L, Mem B L w' → Sl w' (.slice bb body.length cb) body.length (body.flatMap symC) := fun w' L hm => hfl.gr (ho.mem hm)
      have hall := fun w' L (hm : Mem B L w') (hx : Sl w' (vRow n gM cM) M.length (M.map .bool)) => allB_calls (vRow n gM cM) (.slice bb body.length cb) M body true w' hx (hsb w' L hm) (fun x hx hx2 => by have := hp3 x hx (by omega); rw [hM]; omega)
      rw [hM] at hall
      have hbg := fun w' L (hm : Mem B L w') (hx : Sl w' (vRow n gE cE) E.length (E.map .bool)) (hy : Sl w' (vRow n gF cF) F'.length (F'.map bitV)) => begin_calls (vRow n gE cE) (vRow n gF cF) (vRow n gW cW) vR (vRow n gM cM) (.slice bb body.length cb) E F' body 0 w' hx hy (hsb w' L hm) (by rw [hE, j2.1]) (fun x hx => ⟨fun h => by have := hp2 x hx h; omega, fun h => by have := hp3 x hx h; rw [j2.1]; omega⟩) j2.2 (by decide)
      rw [hE, j2.1] at hbg
      unfold stepF at j3
      dsimp only at j3
      rw [Int.toNat_natCast] at j3
      generalize allF M body true = a1 at *
      have hbl : beginF E F' body 0 < 18446744073709551616 := beginF_lt j2 (by decide) fun x hx h => (hp2 x hx h).2
      generalize beginF E F' body 0 = bg at *
      repeat(first|refine QV QP ?_|refine QZ ?_|refine qcT rfl ?_|refine qcF rfl ?_|refine E_blockX ?_|refine E_blockO rfl ?_|refine qs rfl rfl rfl rfl rfl rfl ?_|((try refine qg rfl rfl rfl ?_);first|refine QV QP ?_|refine QV (rr_idxc Und.eq TyC.ty rfl rfl c6) ?_|refine QV (rr_loadN TyC.ty rfl rfl (hat _)) ?_|refine QV QL ?_|refine QV QA ?_|refine QV QlT ?_|refine QV QlF ?_|refine QV QeT ?_|refine QV QeF ?_|refine QV QaA ?_))
      clear hat
      refine TL_new rfl fun g6 => ?_
      refine TL_storeB (i := 6) rfl rfl rfl rfl rfl rfl ?_
      conv=>arg 8;simp only[zA,zB,zC,zD,zE,zF,zG,zH,zI,rowS,ret,id_eq]
      repeat(first|refine QV QP ?_|refine QZ ?_|refine qcT rfl ?_|refine qcF rfl ?_|refine E_blockX ?_|refine E_blockO rfl ?_|refine qs rfl rfl rfl rfl rfl rfl ?_|((try refine qg rfl rfl rfl ?_);first|refine QV QP ?_|refine QV (rr_load1 TyC.ty rfl (at_blk (i := 5) rfl rfl)) ?_|refine QV (rr_load1 TyC.ty rfl (at_blk (i := 6) rfl rfl)) ?_|refine QV QL ?_|refine QV QA ?_|refine QV QlT ?_|refine QV QlF ?_|refine QV QeT ?_|refine QV QeF ?_|refine QV QaA ?_))
      refine TL_call (he3 EntersC.en rfl rfl rfl rfl) (fun w hm => hall _ _ hm (sl_row (i := 3) rfl w hm)) rfl rfl rfl ?_
      intro _ _
      conv=>arg 8;simp only[zA,zB,zC,zD,zE,zF,zG,zH,zI,rowS,ret,id_eq]
      cases a1
      · rw [if_neg (by decide)] at j3
        repeat(first|refine QV QP ?_|refine QZ ?_|refine qcT rfl ?_|refine qcF rfl ?_|refine E_blockX ?_|refine E_blockO rfl ?_|refine qs rfl rfl rfl rfl rfl rfl ?_|((try refine qg rfl rfl rfl ?_);first|refine QV QP ?_|refine QV QL ?_|refine QV QA ?_|refine QV QlT ?_|refine QV QlF ?_|refine QV QeT ?_|refine QV QeF ?_|refine QV QaA ?_))
        refine E_pick [0, 1, 2, 3, 4, 5] (by decide) rfl ?_
        exact E_round (k + 1, F', m) ⟨by omega, j2, j3⟩ (by show prods.length - (k + 1) < prods.length - k; omega) (by repeat' (first | exact True.intro | refine And.intro rfl ?_)) rfl
      · rw [if_pos rfl] at j3
        have hok2 := addF_ok (i := hn) j2 hbl
        have hadd := fun w' B' hm => add2_calls n gF cF F' hn bg w' B' j2 hp1.2 hbl hm
        generalize addF F' hn bg = ad at *
        obtain ⟨F2, ch⟩ := ad
        dsimp only at *
        repeat(first|refine QV QP ?_|refine QZ ?_|refine qcT rfl ?_|refine qcF rfl ?_|refine E_blockX ?_|refine E_blockO rfl ?_|refine qs rfl rfl rfl rfl rfl rfl ?_|((try refine qg rfl rfl rfl ?_);first|refine QV QP ?_|refine QV QL ?_|refine QV QA ?_|refine QV QlT ?_|refine QV QlF ?_|refine QV QeT ?_|refine QV QeF ?_|refine QV QaA ?_))
        refine T_ord ([blkO g3 (facV (vRow n gE cE) (vRow n gF cF) (vRow n gW cW) vR (vRow n gM cM)).cells 34, blkO g6 #[.int .i64 (hn : Int), .slice bb body.length cb] 57]) (.calm 0 (.calm 1 (.calm 2 (.calm 3 (.calm 4 (.calm 5 (.calm 6 (.one 7 (.one 8 (.calm 9 (.calm 10 (.calm 11 (.calm 12 (.done)))))))))))))) (sub_pick [5, 6] (by decide) rfl) (by kernel_rfl) (by kernel_rfl) (by intro c a d v w h; cases d <;> exact h) ?_
        repeat(first|((first|refine TW_plain rfl rfl ?_|refine TW_gmet rfl rfl rfl rfl ?_);first|refine QW QP ?_|refine QW (rr_load1 TyC.ty rfl (at_blk (i := 0) rfl rfl)) ?_|refine QW (rr_load1 TyC.ty rfl (at_blk (i := 1) rfl rfl)) ?_|refine QW (rr_loadB (i := 0) TyC.ty rfl rfl rfl) ?_|refine QW QL ?_|refine QW QA ?_|refine QW QlT ?_|refine QW QlF ?_|refine QW QeT ?_|refine QW QeF ?_|refine QW QaA ?_)|refine TW_skip rfl rfl rfl rfl rfl rfl rfl ?_|refine TW_done ?_)
        refine TW_one rfl ?_
        refine TL_call (he3 EntersC.en rfl rfl rfl rfl) (fun w hm => hbg _ _ hm (sl_row (i := 0) rfl w hm) (sl_row (i := 1) rfl w hm)) rfl rfl rfl ?_
        intro _ _
        conv=>arg 8;simp only[zA,zB,zC,zD,zE,zF,zG,zH,zI,rowS,ret,id_eq]
        refine TW_on (sub_pick [5, 6] (by decide) rfl) ?_
        refine TW_one rfl ?_
        refine TL_callB [1] [0, 2, 3, 4, 5, 6] (by decide) rfl rfl (he3 EntersC.en rfl rfl rfl rfl) (fun w hm hb => hadd w _ hb) rfl rfl rfl ?_
        intro _ _
        conv=>arg 8;simp only[zA,zB,zC,zD,zE,zF,zG,zH,zI,rowS,ret,id_eq]
        refine TW_on (sub_pick [4, 5] (by decide) rfl) ?_
        cases ch
        · repeat(first|((first|refine TW_plain rfl rfl ?_|refine TW_gmet rfl rfl rfl rfl ?_);first|refine QW QP ?_|refine QW QL ?_|refine QW QA ?_|refine QW QlT ?_|refine QW QlF ?_|refine QW QeT ?_|refine QW QeF ?_|refine QW QaA ?_)|refine TW_skip rfl rfl rfl rfl rfl rfl rfl ?_|refine TW_done ?_)
          repeat(first|refine QV QP ?_|refine QZ ?_|refine qcT rfl ?_|refine qcF rfl ?_|refine E_blockX ?_|refine E_blockO rfl ?_|refine qs rfl rfl rfl rfl rfl rfl ?_|((try refine qg rfl rfl rfl ?_);first|refine QV QP ?_|refine QV QL ?_|refine QV QA ?_|refine QV QlT ?_|refine QV QlF ?_|refine QV QeT ?_|refine QV QeF ?_|refine QV QaA ?_))
          refine E_pick [0, 6, 1, 2, 3, 4] (by decide) rfl ?_
          exact E_round (k + 1, F2, false || m) ⟨by omega, hok2, j3⟩ (by show prods.length - (k + 1) < prods.length - k; omega) (by repeat' (first | exact True.intro | refine And.intro rfl ?_)) rfl
        · repeat(first|((first|refine TW_plain rfl rfl ?_|refine TW_gmet rfl rfl rfl rfl ?_);first|refine QW QP ?_|refine QW QL ?_|refine QW QA ?_|refine QW QlT ?_|refine QW QlF ?_|refine QW QeT ?_|refine QW QeF ?_|refine QW QaA ?_)|refine TW_skip rfl rfl rfl rfl rfl rfl rfl ?_|refine TW_done ?_)
          repeat(first|refine QV QP ?_|refine QZ ?_|refine qcT rfl ?_|refine qcF rfl ?_|refine E_blockX ?_|refine E_blockO rfl ?_|refine qs rfl rfl rfl rfl rfl rfl ?_|((try refine qg rfl rfl rfl ?_);first|refine QV QP ?_|refine QV QL ?_|refine QV QA ?_|refine QV QlT ?_|refine QV QlF ?_|refine QV QeT ?_|refine QV QeF ?_|refine QV QaA ?_))
          refine E_pick [0, 6, 1, 2, 3, 4] (by decide) rfl ?_
          exact E_round (k + 1, F2, true || m) ⟨by omega, hok2, j3⟩ (by show prods.length - (k + 1) < prods.length - k; omega) (by repeat' (first | exact True.intro | refine And.intro rfl ?_)) rfl
    · rw [List.drop_of_length_le (by omega)] at j3
      have j3 : (F', m) = (Fx, mx) := j3
      simp only [Prod.mk.injEq] at j3
      obtain ⟨rfl, rfl⟩ := j3
      obtain ⟨d1, d2, d3, d4⟩ := hdone
      repeat(first|refine QV QP ?_|refine QZ ?_|refine qcT rfl ?_|refine qcF rfl ?_|refine E_blockX ?_|refine E_blockO rfl ?_|refine qs rfl rfl rfl rfl rfl rfl ?_|((try refine qg rfl rfl rfl ?_);first|refine QV QP ?_|refine QV QL ?_|refine QV QA ?_|refine QV QlT ?_|refine QV QlF ?_|refine QV QeT ?_|refine QV QeF ?_|refine QV QaA ?_))
      exact E_round (F', m) ⟨d1, d2, d3⟩ d4 (by repeat' (first | exact True.intro | refine And.intro rfl ?_)) rfl
end Go.Proofs.Ytomkjjpdnmcnnaa.eng

/- FactsN -/
namespace Go.Proofs.Ytomkjjpdnmcnnaa.factsL
open gramL
def okR (n : Nat) (s : FS) : Prop := s.E.length = n ∧ s.R.length = n ∧ s.M.length = n
def had (s : FS) : Nat := trues s.E + trues s.R + trues s.M
/-- a step of rounds, begun with nothing new -/
def stepS (l : List gramL.Prod) (s : FS) : FS × Bool := (roundL l ⟨s.E, s.R, s.M, false⟩, (roundL l ⟨s.E, s.R, s.M, false⟩).more)
theorem trues_le (l : List Bool) : trues l ≤ l.length := List.countP_le_length
theorem markF_grow {l : List Bool} {i : Nat} {b : Bool} (hi : i < l.length) : trues l ≤ trues (markF l i b).1 ∧ ((markF l i b).2 = true → trues l < trues (markF l i b).1) := by
  have := markF_trues (b := b) hi
  refine ⟨by split at this <;> omega, fun h => ?_⟩
  rw [if_pos h] at this
  omega
theorem roundR_grow {h n : Nat} : ∀ (body : List Sym) (R : List Bool) (more : Bool), (∀ x ∈ body, x.1 = 2 → x.2.toNat < n) → R.length = n → trues R ≤ trues (roundR h body R more).1 ∧ ((roundR h body R more).2 = true → more = true ∨ trues R < trues (roundR h body R more).1)
  | [], R, more, _, _ => ⟨Nat.le_refl _, fun c => .inl c⟩
  | x :: r, R, more, hx, hR => by
    rw [roundR]
    have ih := fun R more => roundR_grow (h := h) r R more fun y hy => hx y (by simp [hy])
    unfold stepR
    split
    · rename_i c0
      have hg := markF_grow (b := R.getD h false) (show x.2.toNat < R.length by rw [hR]; exact hx x (by simp) c0)
      have hl := markF_len R x.2.toNat (R.getD h false)
      generalize markF R x.2.toNat (R.getD h false) = a at *
      obtain ⟨R2, m2⟩ := a
      dsimp only at *
      obtain ⟨k1, k2⟩ := ih R2 (m2 || more) (by omega)
      refine ⟨by omega, fun c => ?_⟩
      rcases k2 c with c2 | c2
      · rw [Bool.or_eq_true] at c2
        rcases c2 with c2 | c2
        · have := hg.2 c2
          exact .inr (by omega)
        · exact .inl c2
      · exact .inr (by omega)
    · exact ih R more hR
theorem roundP_grow {n : Nat} {p : gramL.Prod} {s : FS} (hp : p.1.toNat < n) (hx : ∀ x ∈ p.2, x.1 = 2 → x.2.toNat < n) (h : okR n s) : okR n (roundP p s) ∧ had s ≤ had (roundP p s) ∧ ((roundP p s).more = true → s.more = true ∨ had s < had (roundP p s)) := by
  obtain ⟨E, R, M, more⟩ := s
  obtain ⟨h1, h2, h3⟩ := h
  unfold roundP okR had
  dsimp only at *
  have e1 := markF_grow (b := allF E p.2 false) (show p.1.toNat < E.length by omega)
  have e2 := markF_len E p.1.toNat (allF E p.2 false)
  have m1 := markF_grow (b := allF M p.2 true) (show p.1.toNat < M.length by omega)
  have m2 := markF_len M p.1.toNat (allF M p.2 true)
  generalize markF E p.1.toNat (allF E p.2 false) = a at *
  generalize markF M p.1.toNat (allF M p.2 true) = b at *
  obtain ⟨E2, ce⟩ := a
  obtain ⟨M2, cm⟩ := b
  dsimp only at *
  have r1 := roundR_grow (h := p.1.toNat) p.2 R (cm || (ce || more)) hx h2
  have r2 := roundR_len p.1.toNat p.2 R (cm || (ce || more))
  generalize roundR p.1.toNat p.2 R (cm || (ce || more)) = c at *
  obtain ⟨R2, cr⟩ := c
  dsimp only at *
  refine ⟨⟨by omega, by omega, by omega⟩, by omega, fun hc => ?_⟩
  rcases r1.2 hc with h4 | h4
  · rw [Bool.or_eq_true, Bool.or_eq_true] at h4
    rcases h4 with h4 | h4 | h4
    · have := m1.2 h4
      exact .inr (by omega)
    · have := e1.2 h4
      exact .inr (by omega)
    · exact .inl h4
  · exact .inr (by omega)
theorem roundL_grow {n : Nat} : ∀ (l : List gramL.Prod) (s : FS), Fine n l → okR n s → okR n (roundL l s) ∧ had s ≤ had (roundL l s) ∧ ((roundL l s).more = true → s.more = true ∨ had s < had (roundL l s))
  | [], s, _, h => ⟨h, Nat.le_refl _, fun c => .inl c⟩
  | p :: r, s, hf, h => by
    rw [roundL]
    obtain ⟨a1, a2, a3⟩ := roundP_grow (s := s) (hf.head p (by simp)).2 (fun x hx h2 => (hf.non p (by simp) x hx (by omega)).2.2) h
    obtain ⟨k1, k2, k3⟩ := roundL_grow r (roundP p s) hf.tail a1
    refine ⟨k1, by omega, fun c => ?_⟩
    rcases k3 c with c2 | c2
    · rcases a3 c2 with c3 | c3
      · exact .inl c3
      · exact .inr (by omega)
    · exact .inr (by omega)
theorem had_le {n : Nat} {s : FS} (h : okR n s) : had s ≤ 3 * n := by
  have a := trues_le s.E
  have b := trues_le s.R
  have c := trues_le s.M
  obtain ⟨h1, h2, h3⟩ := h
  unfold had; omega
/-- what is still missing after rounds -/
def lackS (n : Nat) (s : FS) : Nat := 3 * n - had s
theorem fallsS {n : Nat} {l : List gramL.Prod} (hf : Fine n l) : Falls (stepS l) (okR n) (lackS n) :=
  ⟨fun s hs => (roundL_grow l ⟨s.E, s.R, s.M, false⟩ hf hs).1, fun s hs c => by
    have h := roundL_grow l ⟨s.E, s.R, s.M, false⟩ hf hs
    have h2 := had_le h.1
    rcases h.2.2 c with h3 | h3
    · cases h3
    · have e : had ⟨s.E, s.R, s.M, false⟩ = had s := rfl
      show 3 * n - had (roundL l ⟨s.E, s.R, s.M, false⟩) < 3 * n - had s
      omega⟩
end Go.Proofs.Ytomkjjpdnmcnnaa.factsL

/- MixX -/
namespace Go.Proofs.Ytomkjjpdnmcnnaa.eng
open Go.RowKit kit mix
theorem OwnsP.perm {p : Nat → Prop} {w : World} {L L' : List Own} (h : OwnsP p w L) (hp : L.Perm L') : OwnsP p w L' := by
  have hpw : L.Pairwise (fun o o' => ∀ k, o.foot k → ¬ o'.foot k) := List.pairwise_iff_getElem.2 fun i j hi hj hij => h.apart i j _ _ (by omega) (List.getElem?_eq_getElem hi) (List.getElem?_eq_getElem hj)
  have hpw' := List.pairwise_iff_getElem.1 ((hp.pairwise_iff (fun hxy k h1 h2 => hxy k h2 h1)).1 hpw)
  refine ⟨fun i o hi => ?_, fun i j o o' hij hi hj k h1 h2 => ?_⟩
  · obtain ⟨j, hj⟩ := List.getElem?_of_mem (hp.symm.subset (List.mem_of_getElem? hi))
    exact h.all j o hj
  · obtain ⟨hi', rfl⟩ := List.getElem?_eq_some_iff.1 hi
    obtain ⟨hj', rfl⟩ := List.getElem?_eq_some_iff.1 hj
    rcases Nat.lt_or_gt_of_ne hij with h3 | h3
    · exact hpw' i j hi' hj' h3 k h1 h2
    · exact hpw' j i hj' hi' h3 k h2 h1
theorem Mem.perm {W : Base} {w : World} {L L' : List Own} (h : Mem W L w) (hp : L.Perm L') : Mem W L' w := ⟨h.low, h.owns.perm hp⟩
theorem look_perm {l l' : Fr} (hp : l.Perm l') : (l.map (·.1)).Nodup → ∀ (fr : Fr) (i : Nat), look (l ++ fr) i = look (l' ++ fr) i := by
  induction hp with
  | nil => intro _ _ _; rfl
  | cons x _ ih =>
    intro hn fr i
    rw [List.map_cons, List.nodup_cons] at hn
    obtain ⟨k, v⟩ := x
    show (bif Nat.beq k i then some v else _) = (bif Nat.beq k i then some v else _)
    have e := ih hn.2 fr i
    exact congrArg (fun z => bif Nat.beq k i then some v else z) e
  | swap x y l =>
    intro hn fr i
    obtain ⟨k, v⟩ := x
    obtain ⟨k2, v2⟩ := y
    simp only [List.map_cons, List.nodup_cons, List.mem_cons, not_or] at hn
    show (bif Nat.beq k2 i then some v2 else bif Nat.beq k i then some v else _) = (bif Nat.beq k i then some v else bif Nat.beq k2 i then some v2 else _)
    cases e : Nat.beq k2 i
    · rfl
    · cases e2 : Nat.beq k i
      · rfl
      · have a := Nat.eq_of_beq_eq_true e
        have b := Nat.eq_of_beq_eq_true e2
        exact absurd (a.trans b.symm) hn.1.1
  | trans h1 _ ih1 ih2 =>
    intro hn fr i
    rw [ih1 hn, ih2 ((h1.map _).nodup_iff.1 hn)]
theorem perm_lift {α β : Type} (f : α → β) {l l' : List β} (h : l.Perm l') : ∀ dn : List α, dn.map f = l → ∃ dn' : List α, dn'.Perm dn ∧ dn'.map f = l' := by
  induction h with
  | nil => exact fun dn h => ⟨dn, .refl _, h⟩
  | cons x _ ih =>
    intro dn h
    match dn, h with
    | y :: dn, h =>
      simp only [List.map_cons, List.cons.injEq] at h
      obtain ⟨d', h1, h2⟩ := ih dn h.2
      exact ⟨y :: d', h1.cons y, by simp [h.1, h2]⟩
  | swap x y l =>
    intro dn h
    match dn, h with
    | a :: b :: dn, h =>
      simp only [List.map_cons, List.cons.injEq] at h
      exact ⟨b :: a :: dn, List.Perm.swap _ _ _, by simp [h.1, h.2.1, h.2.2]⟩
  | trans _ _ ih1 ih2 =>
    intro dn h
    obtain ⟨d1, h1, h2⟩ := ih1 dn h
    obtain ⟨d2, h3, h4⟩ := ih2 d1 h2
    exact ⟨d2, h3.trans h1, h4⟩
def subs : List Nat → List (List Nat)
  | [] => [[]]
  | a :: r => subs r ++ (subs r).map (a :: ·)
theorem filter_subs (p : Nat → Bool) : ∀ l, l.filter p ∈ subs l
  | [] => by simp [subs]
  | a :: r => by
    have ih := filter_subs p r
    unfold subs
    rw [List.filter_cons]
    split
    · exact List.mem_append_right _ (List.mem_map_of_mem ih)
    · exact List.mem_append_left _ ih
/-- a maker of a region -/
structure Mk where
  i : Nat
  d : Nat
  v : Nat → Value
  own : Nat → Own
def frm (dn : List (Mk × Nat)) : Fr := dn.map fun x => (x.1.d, x.1.v x.2)
def owm (dn : List (Mk × Nat)) : List Own := dn.map fun x => x.1.own x.2
def markL (listed : Array Bool) (D : List Nat) : Array Bool := D.foldl (fun l i => l.setIfInBounds i true) listed
theorem markL_get (D : List Nat) : ∀ (listed : Array Bool) (j : Nat), (markL listed D)[j]? = (listed[j]?).map fun b => b || D.contains j := by
  induction D with
  | nil => intro listed j; simp [markL]
  | cons a r ih =>
    intro listed j
    show (markL (listed.setIfInBounds a true) r)[j]? = _
    rw [ih, Array.getElem?_setIfInBounds]
    by_cases c : a = j
    · subst c
      simp
      split <;> simp_all
    · rw [if_neg c]
      have : ¬ j = a := fun h => c h.symm
      simp [this]
theorem markL_same {listed : Array Bool} {D D' : List Nat} (h : ∀ j, D.contains j = D'.contains j) : markL listed D = markL listed D' := by
  apply Array.ext_getElem?
  intro j
  rw [markL_get, markL_get, h j]
def manyB (ops : Array Oper) (is : List Nat) (ends : List (List Nat)) (listed : Array Bool) : Bool := (subs is).all fun D => ends.contains D || decide (Region.ready .any ops (markL listed D) = is.filter fun i => !D.contains i)
theorem nodup_le : ∀ (l l' : List Nat), l.Nodup → (∀ x ∈ l, x ∈ l') → l.length ≤ l'.length
  | [], _, _, _ => Nat.zero_le _
  | a :: r, l', hn, hs => by
    rw [List.nodup_cons] at hn
    have ha := hs a (by simp)
    have := nodup_le r (l'.erase a) hn.2 fun x hx => (List.mem_erase_of_ne (fun (e : x = a) => hn.1 (by rw [← e]; exact hx))).2 (hs x (by simp [hx]))
    rw [List.length_erase_of_mem ha] at this
    have := List.length_pos_of_mem ha
    simp; omega
theorem nodup_perm : ∀ (l l' : List Nat), l.Nodup → (∀ x ∈ l, x ∈ l') → l'.length ≤ l.length → l.Perm l'
  | [], l', _, _, h => by
    have : l' = [] := List.length_eq_zero_iff.1 (by simpa using h)
    subst this; exact .refl _
  | a :: r, l', hn, hs, h => by
    rw [List.nodup_cons] at hn
    have ha := hs a (by simp)
    have hl := List.length_erase_of_mem ha
    have h2 := List.length_pos_of_mem ha
    have := nodup_perm r (l'.erase a) hn.2 (fun x hx => (List.mem_erase_of_ne (fun (e : x = a) => hn.1 (by rw [← e]; exact hx))).2 (hs x (by simp [hx]))) (by simp at h; omega)
    exact (this.cons a).trans (List.perm_cons_erase ha).symm
theorem inj_i : ∀ (ms : List Mk), (ms.map (·.i)).Nodup → ∀ m ∈ ms, ∀ m' ∈ ms, m.i = m'.i → m = m'
  | [], _, _, hm, _, _, _ => by cases hm
  | y :: ms, h, m, hm, m', hm', e => by
    rw [List.map_cons, List.nodup_cons] at h
    rcases List.mem_cons.1 hm with a1 | a1 <;> rcases List.mem_cons.1 hm' with a2 | a2
    · rw [a1, a2]
    · exact absurd (by rw [← a1, e]; exact List.mem_map_of_mem a2) h.1
    · exact absurd (by rw [← a2, ← e]; exact List.mem_map_of_mem a1) h.1
    · exact inj_i ms h.2 m a1 m' a2 e
theorem fst_of_i : ∀ (dn : List (Mk × Nat)) (ms all : List Mk), (∀ m ∈ all, ∀ m' ∈ all, m.i = m'.i → m = m') → (∀ x ∈ dn, x.1 ∈ all) → (∀ x ∈ ms, x ∈ all) → dn.map (·.1.i) = ms.map (·.i) → dn.map (·.1) = ms
  | [], ms, _, _, _, _, h => by
    simp only [List.map_nil] at h
    exact (List.map_eq_nil_iff.1 h.symm).symm
  | y :: dn, [], _, _, _, _, h => by simp at h
  | y :: dn, m :: ms, all, hi, h1, h2, h => by
    simp only [List.map_cons, List.cons.injEq] at h
    rw [List.map_cons, fst_of_i dn ms all hi (fun x hx => h1 x (by simp [hx])) (fun x hx => h2 x (by simp [hx])) h.2, hi y.1 (h1 y (by simp)) m (h2 m (by simp)) h.1]
section
variable {P : Program} {n : Nat} {W : Base} {Q : Exit → Act → World → Prop} {fr : Fr} {L L0 : List Own} {ops : Array Oper}
/-- what a maker does, from any frame that knows as much -/
def Makes (P : Program) (n : Nat) (W : Base) (ops : Array Oper) (fr : Fr) (m : Mk) : Prop :=
  ∃ o, ops[m.i]? = some o ∧ ∀ (Q : Exit → Act → World → Prop) (fr' : Fr) (L : List Own), (∀ q v, look fr q = some v → look fr' q = some v) → (∀ g, TL P n W ops Q [] ((m.d, m.v g) :: fr') (L ++ [m.own g])) → TL P n W ops Q [o] fr' L
theorem look_none : ∀ (l : Fr) {q : Nat} {v : Value}, (∀ x ∈ l, look fr x.1 = none) → look fr q = some v → look (l ++ fr) q = some v
  | [], _, _, _, h => h
  | (k, u) :: l, q, v, hl, h => by
    show (bif Nat.beq k q then some u else look (l ++ fr) q) = some v
    cases e : Nat.beq k q
    · exact look_none l (fun x hx => hl x (by simp [hx])) h
    · have := Nat.eq_of_beq_eq_true e
      subst this
      have := hl (k, u) (by simp)
      rw [this] at h
      cases h
theorem Rep.perm {a : Act} {l l' : Fr} (h : Rep n a (l ++ fr)) (hp : l.Perm l') (hn : (l.map (·.1)).Nodup) : Rep n a (l' ++ fr) :=
  ⟨h.size, h.defers, fun i v hl => h.get i v (by rw [look_perm hp hn fr i]; exact hl)⟩
theorem pick_g : ∀ (dn : List (Mk × Nat)), (dn.map (·.1.i)).Nodup → ∃ g : Nat → Nat, ∀ x ∈ dn, g x.1.i = x.2
  | [], _ => ⟨fun _ => 0, fun x hx => by cases hx⟩
  | y :: dn, h => by
    rw [List.map_cons, List.nodup_cons] at h
    obtain ⟨g, hg⟩ := pick_g dn h.2
    refine ⟨fun i => if i = y.1.i then y.2 else g i, fun x hx => ?_⟩
    rcases List.mem_cons.1 hx with rfl | hx
    · simp
    · have : ¬ x.1.i = y.1.i := fun e => h.1 (by rw [← e]; exact List.mem_map_of_mem hx)
      simp only [if_neg this]
      exact hg x hx
theorem many_canon (ms E : List Mk) (hn : (ms.map (·.i)).Nodup) (hEn : (E.map (·.i)).Nodup) (hEd : (E.map (·.d)).Nodup) (hE : ∀ m ∈ E, m ∈ ms) (dn : List (Mk × Nat)) (h1 : ∀ x ∈ dn, x.1 ∈ ms) (hp : (dn.map (·.1.i)).Perm (E.map (·.i))) (a : Act) (hr : Rep n a (frm dn ++ fr)) :
    ∃ g : Nat → Nat, Rep n a (E.map (fun m => (m.d, m.v (g m.i))) ++ fr) ∧ Mem W (L ++ owm dn) = Mem W (L ++ E.map fun m => m.own (g m.i)) := by
  obtain ⟨d', p1, p2⟩ := perm_lift (fun x : Mk × Nat => x.1.i) hp dn rfl
  have e1 := fst_of_i d' E ms (inj_i ms hn) (fun x hx => h1 x (p1.subset hx)) hE p2
  obtain ⟨g, hg⟩ := pick_g d' (by rw [p2]; exact hEn)
  have e2 : d' = E.map fun m => (m, g m.i) := by
    rw [← e1, List.map_map]
    conv => lhs; rw [← List.map_id d']
    exact List.map_congr_left fun x hx => by
      obtain ⟨m, q⟩ := x
      have := hg _ hx
      dsimp only at this
      simp [this]
  have hpd : ((frm dn).map (·.1)).Nodup := by
    have : ((frm dn).map (·.1)).Perm (E.map (·.d)) := by
      have h5 := (p1.map fun x : Mk × Nat => x.1.d).symm
      have e : d'.map (fun x : Mk × Nat => x.1.d) = E.map (·.d) := by rw [← e1, List.map_map]; rfl
      rw [e] at h5
      unfold frm
      rw [List.map_map]
      exact h5
    exact this.nodup_iff.2 hEd
  have hr' := hr.perm (p1.map _).symm hpd
  refine ⟨g, ?_, ?_⟩
  · have : d'.map (fun x => (x.1.d, x.1.v x.2)) = E.map (fun m => (m.d, m.v (g m.i))) := by rw [e2, List.map_map]; rfl
    rw [← this]; exact hr'
  · have e : E.map (fun m => m.own (g m.i)) = owm d' := by rw [e2, owm, List.map_map]; rfl
    rw [e]
    exact funext fun w => propext ⟨fun h => h.perm (((p1.map _).symm).append_left L), fun h => h.perm ((p1.map _).append_left L)⟩
theorem many_go (ms : List Mk) (ends : List (List Mk)) (listed : Array Bool) (U : World → Prop) (S0 : Nat) (hUL : ∀ l, ∀ w, Mem W (L ++ l) w → U w)
    (hn : (ms.map (·.i)).Nodup) (hd : (ms.map (·.d)).Nodup) (hB : manyB ops (ms.map (·.i)) (ends.map fun E => E.map (·.i)) listed = true) (hm : ∀ m ∈ ms, Makes P n W ops fr m) (hf : ∀ m ∈ ms, look fr m.d = none)
    (hEnd : ∀ E ∈ ms :: ends, (∀ m ∈ E, m ∈ ms) ∧ (E.map (·.i)).Nodup ∧ (E.map (·.d)).Nodup ∧ ∀ (k : Nat) (g : Nat → Nat) (a : Act), E.length + k = ms.length → Rep n a (E.map (fun m => (m.d, m.v (g m.i))) ++ fr) → wpAnyV P .any ops Q U (k + S0) (markL listed (E.map (·.i))) a (Mem W (L ++ E.map fun m => m.own (g m.i)))) :
    ∀ (k : Nat) (dn : List (Mk × Nat)), (∀ x ∈ dn, x.1 ∈ ms) → (dn.map (·.1.i)).Nodup → dn.length + k = ms.length → ∀ a, Rep n a (frm dn ++ fr) → wpAnyV P .any ops Q U (k + S0) (markL listed (dn.map (·.1.i))) a (Mem W (L ++ owm dn)) := by
  have stop : ∀ E ∈ ms :: ends, ∀ (k : Nat) (dn : List (Mk × Nat)), (∀ x ∈ dn, x.1 ∈ ms) → (dn.map (·.1.i)).Nodup → dn.length + k = ms.length → (dn.map (·.1.i)).Perm (E.map (·.i)) → ∀ a, Rep n a (frm dn ++ fr) → wpAnyV P .any ops Q U (k + S0) (markL listed (dn.map (·.1.i))) a (Mem W (L ++ owm dn)) := by
    intro E hE k dn h1 h2 h3 hp a hr
    obtain ⟨q1, q2, q3, q4⟩ := hEnd E hE
    obtain ⟨g, r1, r2⟩ := many_canon (W := W) (L := L) ms E hn q2 q3 q1 dn h1 hp a hr
    have hlen := hp.length_eq
    simp only [List.length_map] at hlen
    rw [r2, markL_same (D' := E.map (·.i)) fun j => ?_]
    · exact q4 k g a (by omega) r1
    · exact Bool.eq_iff_iff.2 (by simpa using hp.mem_iff)
  intro k
  induction k with
  | zero =>
    intro dn h1 h2 h3 a hr
    exact stop ms (by simp) 0 dn h1 h2 h3 (nodup_perm (dn.map (·.1.i)) (ms.map (·.i)) h2 (fun x hx => by
      obtain ⟨y, hy, rfl⟩ := List.mem_map.1 hx
      exact List.mem_map_of_mem (f := (·.i)) (h1 y hy)) (by simp; omega)) a hr
  | succ k ih =>
    intro dn h1 h2 h3 a hr
    have hstop := fun E hE hp => stop E hE (k + 1) dn h1 h2 h3 hp a hr
    have hsub : ∀ x ∈ dn.map (·.1.i), x ∈ ms.map (·.i) := fun x hx => by
      obtain ⟨y, hy, rfl⟩ := List.mem_map.1 hx
      exact List.mem_map_of_mem (f := (·.i)) (h1 y hy)
    generalize hD : dn.map (·.1.i) = D at *
    have hlenD : D.length = dn.length := by rw [← hD]; simp
    have hsame : ∀ j, D.contains j = ((ms.map (·.i)).filter fun i => D.contains i).contains j := fun j => by
      apply Bool.eq_iff_iff.2
      simp only [List.contains_iff_mem, List.mem_filter]
      exact ⟨fun h => ⟨hsub j h, h⟩, fun h => h.2⟩
    have hq := List.all_eq_true.1 hB _ (filter_subs (fun i => D.contains i) (ms.map (·.i)))
    rw [Bool.or_eq_true] at hq
    rcases hq with hq | hq
    · rw [List.contains_iff_mem] at hq
      obtain ⟨E, hE, e⟩ := List.mem_map.1 hq
      refine hstop E (by simp [hE]) ?_
      rw [e]
      refine nodup_perm _ _ h2 (fun x hx => List.mem_filter.2 ⟨hsub x hx, by simpa using hx⟩) ?_
      exact nodup_le _ _ (hn.filter _) fun x hx => by simpa using (List.mem_filter.1 hx).2
    have hready : Region.ready .any ops (markL listed D) = (ms.map (·.i)).filter fun i => !D.contains i := by
      have hq := of_decide_eq_true hq
      rw [markL_same hsame, hq]
      exact List.filter_congr fun i _ => by rw [← hsame i]
    rw [show k + 1 + S0 = (k + S0) + 1 by omega]
    refine ⟨fun h0 => ?_, fun i hi w hw => ?_⟩
    · exfalso
      have : (ms.map (·.i)).length ≤ D.length := nodup_le _ _ hn fun x hx => by
        rw [hready] at h0
        have := List.filter_eq_nil_iff.1 h0 x hx
        simpa using this
      simp at this
      omega
    · rw [hready, List.mem_filter] at hi
      obtain ⟨hi1, hi2⟩ := hi
      obtain ⟨m, hm1, rfl⟩ := List.mem_map.1 hi1
      have hi3 : m.i ∉ D := by simpa using hi2
      obtain ⟨o, ho, hmk⟩ := hm m hm1
      refine wpOp_of_list ho ((hmk _ (frm dn ++ fr) (L ++ owm dn) (fun q v hq => look_none (frm dn) (fun x hx => ?_) hq) fun g => ?_).go a w hr hw)
      · obtain ⟨y, hy, rfl⟩ := List.mem_map.1 hx
        exact hf y.1 (h1 y hy)
      · refine TL_nil ⟨fun a' w' hr' hm' => ⟨Mem W (L ++ owm ((m, g) :: dn)), closed_mem _ _, hUL _, hm'.perm ?_, ?_⟩⟩
        · rw [List.append_assoc]
          exact (List.perm_append_comm).append_left L
        · have := ih ((m, g) :: dn) (fun x hx => by
            rcases List.mem_cons.1 hx with rfl | hx
            · exact hm1
            · exact h1 x hx) (by rw [List.map_cons, hD, List.nodup_cons]; exact ⟨hi3, h2⟩) (by simp; omega) a' hr'
          rw [List.map_cons, hD] at this
          have e : (markL listed D).setIfInBounds m.i true = markL listed (m.i :: D) := by
            have e0 : (markL listed D).setIfInBounds m.i true = markL listed (D ++ [m.i]) := by
              unfold markL; rw [List.foldl_append]; rfl
            rw [e0]
            exact markL_same fun j => by
              apply Bool.eq_iff_iff.2
              simp [or_comm]
          rw [e]
          exact this
/-- a region that draws, with some of it listed -/
structure TX (P : Program) (n : Nat) (W : Base) (ops : Array Oper) (Q : Exit → Act → World → Prop) (L0 : List Own) (listed : Array Bool) (f : Nat) (fr : Fr) (L : List Own) : Prop where
  go : (∀ w, Mem W L w → Mem W L0 w) → (∀ c a d v w, Q (.panic c) (Act.put a d v) w → Q (.panic c) a w) → Region.noSelect ops = true → ∀ a, Rep n a fr → wpAnyV P .any ops Q (Mem W L0) f listed a (Mem W L)
theorem mem_left {L l : List Own} {w : World} (h : Mem W (L ++ l) w) : Mem W L w := by
  have hl : ∀ (i : Nat) (o : Own), L[i]? = some o → (L ++ l)[i]? = some o := fun i o h => by
    rw [List.getElem?_append_left (List.getElem?_eq_some_iff.1 h).1]; exact h
  exact ⟨h.low, ⟨fun i o hi => h.owns.all i o (hl i o hi), fun i j o o' hij hi hj => h.owns.apart i j o o' hij (hl i o hi) (hl j o' hj)⟩⟩
theorem T_ordX {id : Nat} {l : List Oper} (L0 : List Own) (hsub : ∀ w, Mem W L w → Mem W L0 w) (hm : P.follows .mixedOrders = true) (hsel : Region.noSelect l.toArray = true)
    (hQ : ∀ c a d v w, Q (.panic c) (Act.put a d v) w → Q (.panic c) a w)
    (h : TX P n W l.toArray Q L0 (Array.replicate l.toArray.size false) l.toArray.size fr L) : T P n W (.region id l.toArray true) Q fr L := ⟨fun a w hr hmm => by
  refine wp_region_any hm ?_
  exact wpAny_of_V (U := Mem W L0) l.toArray.size (Array.replicate l.toArray.size false) a (Mem W L) w.drew hmm.drew (h.go hsub hQ hsel a hr)⟩
theorem TX_tree {listed : Array Bool} {f : Nat} (t : Ord) (ho : orderO .any ops t listed = true) (hf : f = t.size) (h : TW P n W ops Q L0 t fr L) : TX P n W ops Q L0 listed f fr L :=
  ⟨fun hsub hQ hsel a hr => by subst hf; exact wpAnyV_ord hsel hQ t listed a (Mem W L) (closed_mem W L) hsub ho (h.go a hr)⟩
theorem TX_val {listed : Array Bool} {f d : Nat} {o : Oper} {v : Value} (i : Nat) (hi : ((Region.ready .any ops listed).contains i && Region.free .any ops listed i) = true) (ho : ops[i]? = some o) (hr : RR P n W o fr L0 v) (hg : o.guard = none) (hd : o.dst = some d) (hn : Nat.blt d n = true)
    (h : TX P n W ops Q L0 (listed.setIfInBounds i true) f ((d, v) :: fr) L) : TX P n W ops Q L0 listed (f + 1) fr L := ⟨fun hsub hQ hsel a hrep => by
  rw [Bool.and_eq_true] at hi
  have hc : CalmIn P ops (Mem W L0) o v a := .inl ⟨wanted_none hg, fun w hw => by unfold calmAt; rw [hr.go a w hrep hw]; exact ⟨rfl, Gr.refl _⟩⟩
  exact wpAnyV_first ho (Region.noSelect_spec hsel) (fun c a w => hQ c a o.dst v w) f listed a (Mem W L) (closed_mem W L) hsub (Region.free_spec ho hi.2) (by simpa using hi.1) hc
    (by rw [hd]; exact h.go hsub hQ hsel _ (hrep.put hn v))⟩
def manyOk (ops : Array Oper) (ms : List Mk) (ends : List (List Nat)) (listed : Array Bool) (fr : Fr) : Bool :=
  decide (ms.map (·.i)).Nodup && decide (ms.map (·.d)).Nodup && manyB ops (ms.map (·.i)) ends listed && ms.all fun m => (look fr m.d).isNone
/-- where some of them being done sets another operation free (ps tells the places of such a set): a walk of its own from there -/
theorem TX_many2 {listed : Array Bool} {f : Nat} (ms : List Mk) (p : Mk → Bool) (S0 : Nat) (hf : f = ms.length + S0) (hB : manyOk ops ms [ms.map (·.i), (ms.filter p).map (·.i)] listed fr = true) (hm : ∀ m ∈ ms, Makes P n W ops fr m)
    (h : ∀ g : Nat → Nat, TX P n W ops Q L0 (markL listed (ms.map (·.i))) S0 (ms.map (fun m => (m.d, m.v (g m.i))) ++ fr) (L ++ ms.map fun m => m.own (g m.i)))
    (h' : ∀ g : Nat → Nat, TX P n W ops Q L0 (markL listed ((ms.filter p).map (·.i))) (ms.length - (ms.filter p).length + S0) ((ms.filter p).map (fun m => (m.d, m.v (g m.i))) ++ fr) (L ++ (ms.filter p).map fun m => m.own (g m.i))) : TX P n W ops Q L0 listed f fr L := ⟨fun hsub hQ hsel a hr => by
  subst hf
  simp only [manyOk, Bool.and_eq_true, decide_eq_true_eq] at hB
  obtain ⟨⟨⟨b1, b2⟩, b3⟩, b4⟩ := hB
  have := many_go (Q := Q) (L := L) ms [ms, ms.filter p] listed (Mem W L0) S0 (fun l w hw => hsub w (mem_left hw)) b1 b2 b3 hm (fun m hm => by simpa using List.all_eq_true.1 b4 m hm)
    (fun E hE => by
      have hE : E = ms ∨ E = ms.filter p := by
        simp only [List.mem_cons, List.not_mem_nil, or_false] at hE
        rcases hE with h | h | h
        · exact .inl h
        · exact .inl h
        · exact .inr h
      rcases hE with rfl | rfl
      · exact ⟨fun _ h => h, b1, b2, fun k g a hk hr => by
          obtain rfl : k = 0 := by omega
          rw [Nat.zero_add]
          exact (h g).go (fun w hw => hsub w (mem_left hw)) hQ hsel a hr⟩
      · exact ⟨fun _ h => (List.mem_filter.1 h).1, b1.sublist (List.filter_sublist.map _), b2.sublist (List.filter_sublist.map _), fun k g a hk hr => by
          obtain rfl : k = ms.length - (ms.filter p).length := by omega
          exact (h' g).go (fun w hw => hsub w (mem_left hw)) hQ hsel a hr⟩) ms.length [] (fun x hx => by cases hx) (by simp) (by simp) a hr
  simpa [markL, owm] using this⟩
theorem ev_mono {fr fr' : Fr} (h : ∀ q v, look fr q = some v → look fr' q = some v) {x : Operand} {v : Value} (hx : ev fr x = some v) : ev fr' x = some v := by
  cases x with
  | tmp t => exact h _ _ hx
  | _ => exact hx
theorem makes_slice {i d : Nat} {t e ty : TypeId} {pos : String} {after : Array Edge} {x y : Operand} {c bytes m cap : Nat} {k k' : IntKind} {zs : Array Value} [ElC P t e c bytes] [ZeroC P e zs] (ho : ops[i]? = some ⟨some d, .makeSlice t x y, ty, pos, after, none⟩) (hx : ev fr x = some (.int k (m : Int))) (hy : ev fr y = some (.int k' (cap : Int))) (hmc : m ≤ cap) (hb : bytes * cap ≤ 281474976710656) (h63 : cap ≤ 9223372036854775807) (hn : Nat.blt d n = true) :
    Makes P n W ops fr ⟨i, d, fun g => .slice (some ⟨g, 0, none⟩) m cap, fun g => blkO g (madeCells zs (cap * c)) e⟩ :=
  ⟨_, ho, fun _ _ _ hl h => TL_makeB (ev_mono hl hx) (ev_mono hl hy) hmc hb h63 hn h⟩
theorem makes_new {i d : Nat} {t ty : TypeId} {pos : String} {after : Array Edge} {cs : Array Value} [ZeroC P t cs] (ho : ops[i]? = some ⟨some d, .alloc t, ty, pos, after, none⟩) (hn : Nat.blt d n = true) :
    Makes P n W ops fr ⟨i, d, fun g => .pointer (some ⟨g, 0, none⟩), fun g => blkO g cs t⟩ :=
  ⟨_, ho, fun _ _ _ _ h => TL_new hn h⟩
end
end Go.Proofs.Ytomkjjpdnmcnnaa.eng

/- FactsO -/
namespace Go.Proofs.Ytomkjjpdnmcnnaa.eng
open Go.RowKit kit mix gramL factsL
def ofS (n : Nat) (l : List gramL.Prod) : FS := factsL.fix (stepS l) (lackS n) ⟨List.replicate n false, (List.replicate n false).set 0 true, List.replicate n false, false⟩
def ofF (n : Nat) (l : List gramL.Prod) : List Nat := setsF (ofS n l).E (ofS n l).M l (List.replicate n 0)
def ofW (n : Nat) (l : List gramL.Prod) : List Nat := setsW (ofS n l).E (ofF n l) l ((List.replicate n 0).set 0 9223372036854775808)
structure Rows5 extends Rows4 where
  gR : Nat
  cR : Nat
def Rows5.val (n : Nat) (x : Rows5) : Value := facV (vRow n x.gE x.cE) (vRow n x.gF x.cF) (vRow n x.gW x.cW) (vRow n x.gR x.cR) (vRow n x.gM x.cM)
theorem build_fac (a b c d e : Option Addr) (n1 n2 n3 n4 n5 c1 c2 c3 c4 c5 : Nat) (w : World) : (Instr.build 34 #[(0, .slice a n1 c1), (1, .slice b n2 c2), (2, .slice c n3 c3), (3, .slice d n4 c4), (4, .slice e n5 c5)]).run Try.prog w = .ok (.agg #[.slice a n1 c1, .slice b n2 c2, .slice c n3 c3, .slice d n4 c4, .slice e n5 c5]) w := by
  go_simp
def mkB (i d n : Nat) : Mk := ⟨i, d, fun g => .slice (some ⟨g, 0, none⟩) n n, fun g => blkO g (madeCells #[.bool false] (n * 1)) 4⟩
def mkN (i d n : Nat) : Mk := ⟨i, d, fun g => .slice (some ⟨g, 0, none⟩) n n, fun g => blkO g (madeCells #[.int .u64 0] (n * 1)) 70⟩
def mkF (i d : Nat) : Mk := ⟨i, d, fun g => .pointer (some ⟨g, 0, none⟩), fun g => blkO g #[.slice none 0 0, .slice none 0 0, .slice none 0 0, .slice none 0 0, .slice none 0 0] 34⟩
theorem T_rowMade {P : Program} {k : Nat} {W : Base} {Q : Exit → Act → World → Prop} {fr : Fr} {L : List Own} {c : Code} {i g m : Nat} {e : TypeId} {z : Value} (hi : L[i]? = some (blkO g (madeCells #[z] (m * 1)) e)) (hm : m ≤ 9223372036854775807) (h : T P k W c Q fr (L.set i (rowO e 1 (.slice (some ⟨g, 0, none⟩) m m) m (List.replicate m z)))) : T P k W c Q fr L :=
  T_toRowN 1 hi (by rw [size_madeCells]) (Nat.le_refl _) hm (by
    have : (madeCells #[z] (m * 1)).toList.take (m * 1) = List.replicate m z := by
      rw [made1, Nat.mul_one, List.take_of_length_le (by simp)]
    rw [this]; exact h)
set_option maxHeartbeats 8000000 in
theorem of_calls (v : Value) (g : Gram) (w : World) (h : GraR (fun k => k < w.heap.size) w v g) (hck : checkG g = 0) (n : Nat) (hn : g.nons = n) :
    Calls Try.prog 7 #[v] w (MeetsB ⟨fun (_ : Rows5) => True, fun x => .tuple #[x.val n, .int .i64 0], fun x => [rowBn n x.gE x.cE (ofS n g.prods).E, rowNn n x.gF x.cF (ofF n g.prods), rowNn n x.gW x.cW (ofW n g.prods), rowBn n x.gR x.cR (ofS n g.prods).R, rowBn n x.gM x.cM (ofS n g.prods).M]⟩ w) := by
  obtain ⟨n1, n2, _, _, hlen, _⟩ := checkG_ok hck
  have hcc := fun w' L (hm : Mem w L w') => checkG_calls v g w' (h.gr ((Old.self w).mem hm))
  rw [hck] at hcc
  have h0 := h
  obtain ⟨vp, rfl, h1, _⟩ := h
  obtain ⟨bp, cp, rfl, hcp, hmp, hrp⟩ := h1
  unfold maxLen at hmp
  obtain ⟨t, nn, prods⟩ := g
  dsimp only at *
  subst hn
  refine enter (args := [graV t (n : Int) (.slice bp prods.length cp)]) (n := 39) Try.func7 rfl rfl rfl ?_
  refine T_seq (T_region (TL_box rfl rfl rfl fun g1 => TL_new rfl fun g2 => ?_))
  conv=>arg 8;simp only[zA,zB,zC,zD,zE,zF,zG,zH,zI,rowS,ret,id_eq]
  repeat(first|refine QV QP ?_|refine QZ ?_|refine qcT rfl ?_|refine qcF rfl ?_|refine E_blockX ?_|refine E_blockO rfl ?_|refine QV (rr_loadB (i := 0) TyC.ty rfl rfl rfl) ?_|refine QV QA ?_|refine QV QnT ?_|refine QV QnF ?_)
  refine TL_call (he1 EntersC.en rfl rfl) (fun w hm => hcc _ _ hm) rfl rfl rfl ?_
  intro _ _
  conv=>arg 8;simp only[zA,zB,zC,zD,zE,zF,zG,zH,zI,rowS,ret,id_eq]
  repeat(first|refine QV QP ?_|refine QZ ?_|refine qcT rfl ?_|refine qcF rfl ?_|refine E_blockX ?_|refine E_blockO rfl ?_|refine QV (rr_load1 TyC.ty rfl (at_blk (i := 0) rfl rfl)) ?_|refine QV QA ?_|refine QV QnT ?_|refine QV QnF ?_)
  refine T_midq (ι := Nat × Nat × Nat × Nat × Nat × Nat) (fun _ => True) (fun (_, _, _, _, _, g6) => [(1, .pointer (some ⟨g1, 0, none⟩)), (2, .pointer (some ⟨g2, 0, none⟩)), (6, .pointer (some ⟨g6, 0, none⟩))])
    (fun (gE, gF, gW, gR, gM, g6) => [blkO g1 (graV t (n : Int) (.slice bp prods.length cp)).cells 24, blkO g2 #[.slice none 0 0, .slice none 0 0, .slice none 0 0, .slice none 0 0, .slice none 0 0] 34, blkO gE (madeCells #[.bool false] (n * 1)) 4, blkO gF (madeCells #[.int .u64 0] (n * 1)) 70, blkO gW (madeCells #[.int .u64 0] (n * 1)) 70, blkO gR (madeCells #[.bool false] (n * 1)) 4, blkO gM (madeCells #[.bool false] (n * 1)) 4, blkO g6 (facV (vRow n gE n) (vRow n gF n) (vRow n gW n) (vRow n gR n) (vRow n gM n)).cells 34]) ?_ ?_
  rotate_left
  · rintro ⟨gE, gF, gW, gR, gM, g6⟩ _
    dsimp only
    refine T_rowMade (i := 2) rfl (by omega) ?_
    refine T_rowMade (i := 3) rfl (by omega) ?_
    refine T_rowMade (i := 4) rfl (by omega) ?_
    refine T_rowMade (i := 5) rfl (by omega) ?_
    refine T_rowMade (i := 6) rfl (by omega) ?_
    conv => arg 7; simp only [List.set_cons_succ, List.set_cons_zero]
    rw [show List.replicate n (Value.bool false) = (List.replicate n false).map .bool by simp, show List.replicate n (Value.int .u64 0) = (List.replicate n 0).map bitV by simp [bitV]]
    have hn0 : 0 < n := by omega
    repeat(first|refine QV QP ?_|refine QZ ?_|refine qcT rfl ?_|refine qcF rfl ?_|refine E_blockX ?_|refine E_blockO rfl ?_|refine QV (rr_load1 TyC.ty rfl (at_blk (i := 7) rfl rfl)) ?_|refine QV (rr_idx1 (j := 0) Und.eq TyC.ty rfl rfl hn0) ?_|refine QV QA ?_|refine QV QnT ?_|refine QV QnF ?_)
    refine TL_storeRow (i := 5) TyC.ty rfl rfl rfl rfl rfl rfl (by simpa using hn0) ?_
    repeat(first|refine QV QP ?_|refine QZ ?_|refine qcT rfl ?_|refine qcF rfl ?_|refine E_blockX ?_|refine E_blockO rfl ?_|refine QV (rr_load1 TyC.ty rfl (at_blk (i := 7) rfl rfl)) ?_|refine QV (rr_idx1 (j := 0) Und.eq TyC.ty rfl rfl hn0) ?_|refine QV QA ?_|refine QV QnT ?_|refine QV QnF ?_)
    refine TL_storeRow (i := 4) TyC.ty rfl rfl rfl rfl rfl rfl (by simpa using hn0) ?_
    conv => arg 8; simp only [List.set_cons_succ, List.set_cons_zero, Nat.zero_add]
    repeat(first|refine QV QP ?_|refine QZ ?_|refine qcT rfl ?_|refine qcF rfl ?_|refine E_blockX ?_|refine E_blockO rfl ?_|refine QV QA ?_|refine QV QnT ?_|refine QV QnF ?_)
    generalize hfin : ofS n prods = fin
    have hfine := fine_of (g := ⟨t, n, prods⟩) hck rfl
    have hfalls := fallsS hfine
    refine T_loop (ι := FS) (fun s => okR n s ∧ factsL.fix (stepS prods) (lackS n) s = fin) (fun _ => [(1, .pointer (some ⟨g1, 0, none⟩)), (2, .pointer (some ⟨g2, 0, none⟩)), (6, .pointer (some ⟨g6, 0, none⟩))])
      (fun s => [blkO g1 (graV t (n : Int) (.slice bp prods.length cp)).cells 24, blkO g2 #[.slice none 0 0, .slice none 0 0, .slice none 0 0, .slice none 0 0, .slice none 0 0] 34, rowBn n gE n s.E, rowNn n gF n (List.replicate n 0), rowNn n gW n ((List.replicate n 0).set 0 9223372036854775808), rowBn n gR n s.R, rowBn n gM n s.M, blkO g6 (facV (vRow n gE n) (vRow n gF n) (vRow n gW n) (vRow n gR n) (vRow n gM n)).cells 34])
      (fun s => lackS n s) ⟨List.replicate n false, (List.replicate n false).set 0 true, List.replicate n false, false⟩ ⟨⟨by simp, by simp, by simp⟩, hfin⟩ (by repeat' (first | exact True.intro | refine And.intro rfl ?_)) (by simp [rowBn, rowNn, bitV, List.map_set]) ?_
    rintro ⟨E, R, M, mo⟩ ⟨i1, i2⟩
    dsimp only at i2 ⊢
    have hrd := fun w' B' (ho : Old w B') hm => round_calls w _ ⟨t, n, prods⟩ h0 hck n rfl ⟨gE, n, gR, n, gM, n⟩ (vRow n gF n) (vRow n gW n) E R M i1.1 i1.2.1 i1.2.2 w' B' ho hm
    dsimp only at hrd
    repeat(first|refine QV QP ?_|refine QZ ?_|refine qcT rfl ?_|refine qcF rfl ?_|refine E_blockX ?_|refine E_blockO rfl ?_|refine QV (rr_loadB (i := 0) TyC.ty rfl rfl rfl) ?_|refine QV (rr_loadB (i := 7) TyC.ty rfl rfl rfl) ?_|refine QV QA ?_|refine QV QnT ?_|refine QV QnF ?_)
    refine TL_callB [2, 5, 6] [0, 1, 3, 4, 7] (by decide) rfl rfl (he2 EntersC.en rfl rfl rfl) (fun w' hm hb => hrd w' _ ((Old.self w).on hm (by intro o ho; simp at ho ⊢; rcases ho with h | h | h <;> simp [h])) hb) rfl rfl rfl ?_
    intro _ _
    conv=>arg 8;simp only[zA,zB,zC,zD,zE,zF,zG,zH,zI,rowS,ret,id_eq]
    clear hrd
    have hk := roundL_grow prods ⟨E, R, M, false⟩ hfine i1
    have hgo : (roundL prods ⟨E, R, M, false⟩).more = true → factsL.fix (stepS prods) (lackS n) (roundL prods ⟨E, R, M, false⟩) = fin ∧ lackS n (roundL prods ⟨E, R, M, false⟩) < lackS n ⟨E, R, M, mo⟩ := fun c => ⟨by rw [← i2, fix_go hfalls i1 c]; rfl, hfalls.dec _ i1 c⟩
    have hst : (roundL prods ⟨E, R, M, false⟩).more = false → roundL prods ⟨E, R, M, false⟩ = fin := fun c => by rw [← i2, fix_stop (s := (⟨E, R, M, mo⟩ : FS)) c]; rfl
    generalize roundL prods ⟨E, R, M, false⟩ = r at *
    obtain ⟨E', R', M', m'⟩ := r
    dsimp only at hgo hst ⊢
    cases m'
    · have hst := hst rfl
      have hsets := fun w' B' (ho : Old w B') hm => sets_calls w _ ⟨t, n, prods⟩ h0 hck n rfl ⟨gE, n, gF, n, gW, n, gM, n⟩ (vRow n gR n) E' (List.replicate n 0) ((List.replicate n 0).set 0 9223372036854775808) M' hk.1.1 ⟨by simp, fun x hx => by rw [List.eq_of_mem_replicate hx]; decide⟩ ⟨by simp, fun x hx => by
        rcases List.mem_or_eq_of_mem_set hx with h | h
        · rw [List.eq_of_mem_replicate h]; decide
        · rw [h]; decide⟩ hk.1.2.2 w' B' ho hm
      dsimp only at hsets
      repeat(first|refine QV QP ?_|refine QZ ?_|refine qcT rfl ?_|refine qcF rfl ?_|refine E_blockX ?_|refine E_blockO rfl ?_|refine QV (rr_loadB (i := 0) TyC.ty rfl rfl rfl) ?_|refine QV (rr_loadB (i := 4) TyC.ty rfl rfl rfl) ?_|refine QV QA ?_|refine QV QnT ?_|refine QV QnF ?_)
      refine TL_callB [5, 2, 3, 7] [0, 1, 6, 4] (by decide) rfl rfl (he2 EntersC.en rfl rfl rfl) (fun w' hm hb => hsets w' _ ((Old.self w).on hm (by intro o ho; simp at ho ⊢; rcases ho with h | h | h | h <;> simp [h])) hb) rfl rfl rfl ?_
      intro _ _
      conv=>arg 8;simp only[zA,zB,zC,zD,zE,zF,zG,zH,zI,rowS,ret,id_eq]
      repeat(first|refine QV QP ?_|refine QZ ?_|refine qcT rfl ?_|refine qcF rfl ?_|refine E_blockX ?_|refine E_blockO rfl ?_|refine QV (rr_loadB (i := 3) TyC.ty rfl rfl rfl) ?_|refine QV QA ?_|refine QV QnT ?_|refine QV QnF ?_)
      refine TL_storeB (i := 1) rfl rfl rfl rfl rfl rfl ?_
      conv=>arg 8;simp only[zA,zB,zC,zD,zE,zF,zG,zH,zI,rowS,ret,id_eq]
      repeat(first|refine QV QP ?_|refine QZ ?_|refine qcT rfl ?_|refine qcF rfl ?_|refine E_blockX ?_|refine E_blockO rfl ?_|refine QV QA ?_|refine QV QnT ?_|refine QV QnF ?_)
      subst hst
      have eF : ofF n prods = setsF E' M' prods (List.replicate n 0) := by unfold ofF; rw [hfin]
      have eW : ofW n prods = setsW E' (setsF E' M' prods (List.replicate n 0)) prods ((List.replicate n 0).set 0 9223372036854775808) := by unfold ofW; rw [eF, hfin]
      rw [eF, eW]
      refine E_retc2 (i := 1) rfl rfl rfl rfl (z := .int .i64 0) ?_ fun w' hm => ?_
      · rfl
      exact hm.meetsB (S := ⟨fun (_ : Rows5) => True, fun x => .tuple #[x.val n, .int .i64 0], fun x => [rowBn n x.gE x.cE E', rowNn n x.gF x.cF (setsF E' M' prods (List.replicate n 0)), rowNn n x.gW x.cW (setsW E' (setsF E' M' prods (List.replicate n 0)) prods ((List.replicate n 0).set 0 9223372036854775808)), rowBn n x.gR x.cR R', rowBn n x.gM x.cM M']⟩) ⟨⟨gE, n, gF, n, gW, n, gM, n⟩, gR, n⟩ trivial [4, 5, 6, 2, 7] (by decide) rfl
    · repeat(first|refine QV QP ?_|refine QZ ?_|refine qcT rfl ?_|refine qcF rfl ?_|refine E_blockX ?_|refine E_blockO rfl ?_|refine QV QA ?_|refine QV QnT ?_|refine QV QnF ?_)
      refine E_pick [0, 1, 5, 2, 3, 6, 7, 4] (by decide) rfl ?_
      exact E_round ⟨E', R', M', true⟩ ⟨hk.1, (hgo rfl).1⟩ (hgo rfl).2 (by repeat' (first | exact True.intro | refine And.intro rfl ?_)) rfl
  refine T_ordX [] sub_nil (by kernel_rfl) (by kernel_rfl) (by intro c a d v w h; cases d <;> exact h) ?_
  refine TX_val 0 (by kernel_rfl) rfl (rr_move rfl) rfl rfl rfl ?_
  refine TX_val 2 (by kernel_rfl) rfl (rr_move rfl) rfl rfl rfl ?_
  refine TX_val 4 (by kernel_rfl) rfl (rr_move rfl) rfl rfl rfl ?_
  refine TX_val 6 (by kernel_rfl) rfl (rr_move rfl) rfl rfl rfl ?_
  refine TX_val 8 (by kernel_rfl) rfl (rr_move rfl) rfl rfl rfl ?_
  refine TX_many2 [mkB 1 16 n, mkN 3 18 n, mkN 5 20 n, mkB 7 22 n, mkB 9 24 n, mkF 11 6] (fun m => !Nat.beq m.i 11) 2 (by kernel_rfl) (by kernel_rfl) ?_ (fun q => ?_) fun q => ?_
  · intro m hm
    simp only [List.mem_cons, List.not_mem_nil, or_false] at hm
    rcases hm with rfl | rfl | rfl | rfl | rfl | rfl
    · exact makes_slice rfl rfl rfl (Nat.le_refl _) (by omega) (by omega) rfl
    · exact makes_slice rfl rfl rfl (Nat.le_refl _) (by omega) (by omega) rfl
    · exact makes_slice rfl rfl rfl (Nat.le_refl _) (by omega) (by omega) rfl
    · exact makes_slice rfl rfl rfl (Nat.le_refl _) (by omega) (by omega) rfl
    · exact makes_slice rfl rfl rfl (Nat.le_refl _) (by omega) (by omega) rfl
    · exact makes_new rfl rfl
  · simp only [mkB, mkN, mkF, List.map_cons, List.map_nil]
    generalize q 1 = gE
    generalize q 3 = gF
    generalize q 5 = gW
    generalize q 7 = gR
    generalize q 9 = gM
    generalize q 11 = g6
    clear q
    refine TX_tree (.calm 10 (.one 12 .done)) (by kernel_rfl) rfl ?_
    repeat(first|((first|refine TW_plain rfl rfl ?_|refine TW_gmet rfl rfl rfl rfl ?_);first|refine QW QP ?_|refine QW (rr_build rfl (build_fac _ _ _ _ _ _ _ _ _ _ _ _ _ _ _)) ?_|refine QW QA ?_|refine QW QnT ?_|refine QW QnF ?_)|refine TW_done ?_)
    refine TW_one rfl ?_
    refine TL_storeB (i := 7) rfl rfl rfl rfl rfl rfl ?_
    refine TW_on sub_nil ?_
    repeat(first|((first|refine TW_plain rfl rfl ?_|refine TW_gmet rfl rfl rfl rfl ?_);first|refine QW QP ?_|refine QW QA ?_|refine QW QnT ?_|refine QW QnF ?_)|refine TW_done ?_)
    exact E_mid (gE, gF, gW, gR, gM, g6) trivial (by repeat' (first | exact True.intro | refine And.intro rfl ?_)) rfl
  · rw [show List.filter (fun m : Mk => !Nat.beq m.i 11) [mkB 1 16 n, mkN 3 18 n, mkN 5 20 n, mkB 7 22 n, mkB 9 24 n, mkF 11 6] = [mkB 1 16 n, mkN 3 18 n, mkN 5 20 n, mkB 7 22 n, mkB 9 24 n] from rfl]
    simp only [mkB, mkN, mkF, List.map_cons, List.map_nil]
    generalize q 1 = gE
    generalize q 3 = gF
    generalize q 5 = gW
    generalize q 7 = gR
    generalize q 9 = gM
    clear q
    refine TX_tree (.calm 10 (.one 11 (.one 12 .done))) (by kernel_rfl) (by kernel_rfl) ?_
    repeat(first|((first|refine TW_plain rfl rfl ?_|refine TW_gmet rfl rfl rfl rfl ?_);first|refine QW QP ?_|refine QW (rr_build rfl (build_fac _ _ _ _ _ _ _ _ _ _ _ _ _ _ _)) ?_|refine QW QA ?_|refine QW QnT ?_|refine QW QnF ?_)|refine TW_done ?_)
    refine TW_one rfl ?_
    refine TL_new rfl fun g6 => ?_
    refine TW_on sub_nil ?_
    refine TW_one rfl ?_
    refine TL_storeB (i := 7) rfl rfl rfl rfl rfl rfl ?_
    refine TW_on sub_nil ?_
    repeat(first|((first|refine TW_plain rfl rfl ?_|refine TW_gmet rfl rfl rfl rfl ?_);first|refine QW QP ?_|refine QW QA ?_|refine QW QnT ?_|refine QW QnF ?_)|refine TW_done ?_)
    exact E_mid (gE, gF, gW, gR, gM, g6) trivial (by repeat' (first | exact True.intro | refine And.intro rfl ?_)) rfl
end Go.Proofs.Ytomkjjpdnmcnnaa.eng

/- FactsP -/
namespace Go.Proofs.Ytomkjjpdnmcnnaa.factsL
open gramL
theorem set_getD (l : List Nat) (i : Nat) : l.set i (l.getD i 0) = l := by
  by_cases h : i < l.length
  · have e : l.getD i 0 = l[i] := by rw [List.getD_eq_getElem?_getD, List.getElem?_eq_getElem h]; rfl
    rw [e, List.set_getElem_self]
  · rw [List.set_eq_of_length_le (by omega)]
end Go.Proofs.Ytomkjjpdnmcnnaa.factsL

/- GramN -/
namespace Go.Proofs.Ytomkjjpdnmcnnaa.eng
open Go.RowKit kit mix gramL
theorem build_gra0 (w : World) : (Instr.build 24 (#[] : Array (Nat × Value))).run Try.prog w = .ok (.agg #[.int .i64 0, .int .i64 0, .slice none 0 0]) w := by
  go_simp
theorem build_gra2 (t n : Int) (w : World) : (Instr.build 24 #[(0, .int .i64 t), (1, .int .i64 n)]).run Try.prog w = .ok (.agg #[.int .i64 t, .int .i64 n, .slice none 0 0]) w := by
  go_simp
theorem build_prod (h : Int) (b : Option Addr) (m c : Nat) (w : World) : (Instr.build 57 #[(0, .int .i64 h), (1, .slice b m c)]).run Try.prog w = .ok (.agg #[.int .i64 h, .slice b m c]) w := by
  go_simp
def prodsO (F : Nat → Prop) (vp : Value) (l : List gramL.Prod) : Own := shpO (sliceS prodS) F [vp] l
theorem graV_one {t n : Int} {v : Value} (h : v.oneCell' = true) : (#[.int .i64 t, .int .i64 n, v] : Array Value).toList.all Value.oneCell' = true := by
  simp only [List.all_cons, List.all_nil, h]; rfl
end Go.Proofs.Ytomkjjpdnmcnnaa.eng

/- Brk -/
namespace Go.Proofs.Ytomkjjpdnmcnnaa.eng
open Go.RowKit kit mix gramL
theorem slf_one {α : Type} {s : Shp α} {F : Nat → Prop} {w : World} {v : Value} {l : List α} (h : SlF s F w v l) : v.oneCell' = true := by
  obtain ⟨b, c, rfl, _⟩ := h; rfl
theorem prodsO_gra {F : Nat → Prop} {vp : Value} {l : List gramL.Prod} {w : World} {t n : Int} (ht : kit.okI64 t) (hn : kit.okI64 n) (h : (prodsO F vp l).holds w) : GraR (fun k => k < w.heap.size) w (graV t n vp) ⟨t, n, l⟩ := by
  obtain ⟨⟨v', hv, h1⟩, h2⟩ := h
  simp only [List.cons.injEq, and_true] at hv
  subst hv
  exact ⟨vp, rfl, h1.mono h2, ht, hn⟩
theorem build_sym (k q : Int) (w : World) : (Instr.build 60 #[(0, .int .i64 k), (1, .int .i64 q)]).run Try.prog w = .ok (.agg #[.int .i64 k, .int .i64 q]) w := by
  go_simp
theorem non_calls (q : Int) (w : World) : Calls Try.prog 22 #[.int .i64 q] w (Meets (ret (.agg (symC (2, q)).toArray)) w) := by
  refine enter (args := [.int .i64 q]) (n := 5) Try.func22 rfl rfl rfl ?_
  refine T_seq (T_region (TL_new rfl fun g => ?_))
  repeat(first|refine QV QP ?_|refine QZ ?_|refine QV (rr_build rfl (build_sym _ _)) ?_)
  refine TL_storeB (i := 0) rfl rfl rfl rfl rfl rfl ?_
  repeat(first|refine QV QP ?_|refine QZ ?_)
  exact E_retc1 (i := 0) rfl rfl rfl rfl fun w hm => hm.ret
theorem term_calls (q : Int) (w : World) : Calls Try.prog 21 #[.int .i64 q] w (Meets (ret (.agg (symC (1, q)).toArray)) w) := by
  refine enter (args := [.int .i64 q]) (n := 5) Try.func21 rfl rfl rfl ?_
  refine T_seq (T_region (TL_new rfl fun g => ?_))
  repeat(first|refine QV QP ?_|refine QZ ?_|refine QV (rr_build rfl (build_sym _ _)) ?_)
  refine TL_storeB (i := 0) rfl rfl rfl rfl rfl rfl ?_
  repeat(first|refine QV QP ?_|refine QZ ?_)
  exact E_retc1 (i := 0) rfl rfl rfl rfl fun w hm => hm.ret
def brkP : List gramL.Prod := [(0, []), (0, [(1, 0), (2, 0), (1, 1), (2, 0)])]
def brkG : Gram := ⟨2, 1, brkP⟩
def gramS (g : Gram) : Spec (Value × (Nat → Prop)) := ⟨fun _ => True, fun x => graV g.terms g.nons x.1, fun x => [prodsO x.2 x.1 g.prods]⟩
theorem build_prod0 (w : World) : (Instr.build 57 (#[] : Array (Nat × Value))).run Try.prog w = .ok (.agg #[.int .i64 0, .slice none 0 0]) w := by
  go_simp
theorem build_prod1 (b : Option Addr) (m c : Nat) (w : World) : (Instr.build 57 #[(1, .slice b m c)]).run Try.prog w = .ok (.agg #[.int .i64 0, .slice b m c]) w := by
  go_simp
theorem build_gra3 (t n : Int) (b : Option Addr) (m c : Nat) (w : World) : (Instr.build 24 #[(0, .int .i64 t), (1, .int .i64 n), (2, .slice b m c)]).run Try.prog w = .ok (.agg #[.int .i64 t, .int .i64 n, .slice b m c]) w := by
  go_simp
theorem rd_blk {w : World} {g : Nat} {cs : Array Value} {T : TypeId} (h : w.heap[g]? = some (.cells cs T (0, 0))) {off : Nat} {xs : List Value} (hx : ∀ (j : Nat) u, xs[j]? = some u → cs[off + j]? = some u) : Rd w g off xs := fun j u hj => by
  rw [cell_of_row w g (off + j) _ _ _ h]; exact hx j u hj
theorem ok0 : kit.okI64 0 := ⟨by decide, by decide⟩
theorem ok1 : kit.okI64 1 := ⟨by decide, by decide⟩
theorem ok2 : kit.okI64 2 := ⟨by decide, by decide⟩
theorem brk_slf {w : World} {g h : Nat} {T T' : TypeId} (hg : w.heap[g]? = some (.cells #[.int .i64 1, .int .i64 0, .int .i64 2, .int .i64 0, .int .i64 1, .int .i64 1, .int .i64 2, .int .i64 0] T (0, 0))) (hh : w.heap[h]? = some (.cells #[.int .i64 0, .slice none 0 0, .int .i64 0, .slice (some ⟨g, 0, none⟩) 4 4] T' (0, 0))) :
    SlF prodS (fun k => k = g ∨ k = h) w (.slice (some ⟨h, 0, none⟩) 2 2) brkP := by
  refine ⟨_, _, rfl, Nat.le_refl _, by decide, fun _ => ⟨h, 0, rfl, .inr rfl, fun i hi => ?_⟩⟩
  match i, hi with
  | 0, _ => exact ⟨[.int .i64 0, .slice none 0 0], ⟨[.int .i64 0], [.slice none 0 0], rfl, ⟨rfl, ok0⟩, _, rfl, SlF.nil⟩, rd_blk hh fun j u hj => by match j, hj with | 0, hj => exact hj | 1, hj => exact hj⟩
  | 1, _ =>
    refine ⟨[.int .i64 0, .slice (some ⟨g, 0, none⟩) 4 4], ⟨[.int .i64 0], [.slice (some ⟨g, 0, none⟩) 4 4], rfl, ⟨rfl, ok0⟩, _, rfl, ?_⟩, rd_blk hh fun j u hj => by match j, hj with | 0, hj => exact hj | 1, hj => exact hj⟩
    refine ⟨_, _, rfl, Nat.le_refl _, by decide, fun _ => ⟨g, 0, rfl, .inl rfl, fun i hi => ?_⟩⟩
    match i, hi with
    | 0, _ => exact ⟨_, ⟨rfl, ok1, ok0⟩, rd_blk hg fun j u hj => by match j, hj with | 0, hj => exact hj | 1, hj => exact hj⟩
    | 1, _ => exact ⟨_, ⟨rfl, ok2, ok0⟩, rd_blk hg fun j u hj => by match j, hj with | 0, hj => exact hj | 1, hj => exact hj⟩
    | 2, _ => exact ⟨_, ⟨rfl, ok1, ok1⟩, rd_blk hg fun j u hj => by match j, hj with | 0, hj => exact hj | 1, hj => exact hj⟩
    | 3, _ => exact ⟨_, ⟨rfl, ok2, ok0⟩, rd_blk hg fun j u hj => by match j, hj with | 0, hj => exact hj | 1, hj => exact hj⟩
attribute [local irreducible] Instr.build in
set_option maxHeartbeats 1000000 in
theorem brackets_calls (w : World) : Calls Try.prog 5 #[] w (Meets (gramS brkG) w) := by
  refine enter (args := []) (n := 10) Try.func5 rfl rfl rfl ?_
  refine T_seq (T_region (TL_new rfl fun g => ?_))
  repeat(first|refine QZ ?_|refine QV (rr_build rfl build_prod0) ?_)
  refine TL_call (he1 EntersC.en rfl rfl) (fun w hm => term_calls 0 w) rfl rfl rfl ?_
  intro _ _
  repeat(first|refine QZ ?_)
  refine TL_call (he1 EntersC.en rfl rfl) (fun w hm => non_calls 0 w) rfl rfl rfl ?_
  intro _ _
  repeat(first|refine QZ ?_)
  refine TL_call (he1 EntersC.en rfl rfl) (fun w hm => term_calls 1 w) rfl rfl rfl ?_
  intro _ _
  repeat(first|refine QZ ?_)
  refine TL_call (he1 EntersC.en rfl rfl) (fun w hm => non_calls 0 w) rfl rfl rfl ?_
  intro _ _
  conv=>arg 8;simp only[zA,zB,zC,zD,zE,zF,zG,zH,zI,rowS,ret,id_eq]
  refine TL_litN [.agg (symC (1, 0)).toArray, .agg (symC (2, 0)).toArray, .agg (symC (1, 1)).toArray, .agg (symC (2, 0)).toArray] rfl rfl rfl (by intro v hv; simp at hv; rcases hv with rfl | rfl | rfl | rfl <;> rfl) rfl rfl rfl fun g6 => ?_
  repeat(first|refine QZ ?_|refine QV (rr_build rfl (build_prod1 _ _ _)) ?_)
  refine TL_litN [.agg #[.int .i64 0, .slice none 0 0], .agg #[.int .i64 0, .slice (some ⟨g6, 0, none⟩) 4 4]] rfl rfl rfl (by intro v hv; simp at hv; rcases hv with rfl | rfl <;> rfl) rfl rfl rfl fun g8 => ?_
  conv=>arg 8;simp only[zA,zB,zC,zD,zE,zF,zG,zH,zI,rowS,ret,id_eq]
  repeat(first|refine QZ ?_|refine QV (rr_build rfl (build_gra3 _ _ _ _ _)) ?_)
  refine TL_storeB (i := 0) rfl rfl rfl rfl rfl rfl ?_
  conv=>arg 8;simp only[zA,zB,zC,zD,zE,zF,zG,zH,zI,rowS,ret,id_eq]
  repeat(first|refine QZ ?_)
  refine E_merge (prodsO (fun k => k = g6 ∨ k = g8) (.slice (some ⟨g8, 0, none⟩) 2 2) brkP) 1 2 [0] (by decide) rfl rfl rfl (fun k hk => hk.elim (fun h => by cases h) fun h => h.elim (fun h => .inl (.inl (by rw [h]; rfl))) fun h => .inr (.inl (by rw [h]; rfl))) (fun w h6 h8 => ?_) ?_
  · refine ⟨⟨_, rfl, brk_slf h6 h8⟩, fun k hk => ?_⟩
    rcases hk with rfl | rfl
    · exact (Array.getElem?_eq_some_iff.1 (show w.heap[k]? = some _ from h6)).1
    · exact (Array.getElem?_eq_some_iff.1 (show w.heap[k]? = some _ from h8)).1
  exact E_retc1 (i := 0) rfl rfl rfl rfl fun w hm => hm.meets (S := gramS brkG) (.slice (some ⟨g8, 0, none⟩) 2 2, fun k => k = g6 ∨ k = g8) trivial [1] (by decide) rfl
end Go.Proofs.Ytomkjjpdnmcnnaa.eng

/- SymS2 -/
namespace Go.Proofs.Ytomkjjpdnmcnnaa.eng
open Go.RowKit kit mix gramL
set_option maxHeartbeats 2000000 in
theorem cloneSymS_calls (v : Value) (l : List Sym) (w : World) (hs : Sl w v l.length (l.flatMap symC)) (hl : l.length * 16 ≤ 140737488355328) :
    Calls Try.prog 19 #[v] w (Meets (rowS 60 2 l.length (l.flatMap symC) id) w) := by
  obtain ⟨base, cap, rfl, hcap, hmax, hrd⟩ := hs
  unfold maxLen at hmax
  refine enter (args := [.slice base l.length cap]) (n := 8) Try.func19 rfl rfl rfl ?_
  have hsl : ∀ w', Gr w w' → Sl w' (.slice base l.length cap) l.length (l.flatMap symC) := fun w' hg => Sl.gr ⟨base, cap, rfl, hcap, hmax, hrd⟩ hg
  clear hrd
  cases base with
  | none =>
    repeat(first|refine QV QP ?_|refine QZ ?_|refine qcT rfl ?_|refine qcF rfl ?_|refine QV (rr_slnil Und.eq rfl rfl rfl) ?_)
    have h0 : l = [] := by
      cases l with
      | nil => rfl
      | cons x l => obtain ⟨_, _, h, _, _, h2⟩ := hsl w (Gr.refl w); simp only [Value.slice.injEq] at h; obtain ⟨rfl, _⟩ := h; obtain ⟨b, off, h, _⟩ := h2 (by simp); cases h
    subst h0
    refine E_nilrow 60 2 ?_
    exact E_ret1 rfl rfl fun w hm => hm.meets (S := rowS 60 2 0 [] id) _ trivial [0] (by decide) rfl
  | some p =>
    repeat(first|refine QV QP ?_|refine QZ ?_|refine qcT rfl ?_|refine qcF rfl ?_|refine QV (rr_slnil Und.eq rfl rfl rfl) ?_)
    refine TL_lit0 rfl fun g => ?_
    repeat(first|refine QV QP ?_|refine QZ ?_|refine qcT rfl ?_|refine qcF rfl ?_)
    refine TL_appSl (i := 0) rfl (fun w' hm => hsl w' hm.below) rfl rfl (len_el SymS_len l) (one_sym l) (by omega) (by omega) rfl fun v' => ?_
    rw [List.nil_append]
    repeat(first|refine QV QP ?_|refine QZ ?_|refine qcT rfl ?_|refine qcF rfl ?_)
    refine E_ret1 rfl rfl fun w hm => ?_
    exact hm.meets (S := rowS 60 2 l.length (l.flatMap symC) id) v' trivial [0] (by decide) (by simp [rowS])
theorem revASymS {l X : List Sym} {i : Nat} (hX : X.length = l.length) (h : ∀ q, q < l.length → X[q]? = if q < i ∨ l.length - i ≤ q then l[l.length - 1 - q]? else l[q]?) (h0 : i < l.length - 1 - i) (x y : Sym) (hx : X[i]? = some x) (hy : X[l.length - 1 - i]? = some y) :
    ∀ q, q < l.length → ((X.set i y).set (l.length - 1 - i) x)[q]? = if q < i + 1 ∨ l.length - (i + 1) ≤ q then l[l.length - 1 - q]? else l[q]? := by
  intro q hq
  rw [List.getElem?_set]
  by_cases c1 : l.length - 1 - i = q
  · rw [if_pos c1, if_pos (by simp; omega), if_pos (by omega), ← hx, h i (by omega), if_neg (by omega)]
    congr 1; omega
  · rw [if_neg c1, List.getElem?_set]
    by_cases c2 : i = q
    · rw [if_pos c2, if_pos (by omega), if_pos (by omega), ← hy, h _ (by omega), if_neg (by omega)]
      congr 1; omega
    · rw [if_neg c2, h q hq]
      by_cases c3 : q < i ∨ l.length - i ≤ q
      · rw [if_pos c3, if_pos (by omega)]
      · rw [if_neg c3, if_neg (by omega)]
theorem revBSymS {l X : List Sym} {i : Nat} (hX : X.length = l.length) (h : ∀ q, q < l.length → X[q]? = if q < i ∨ l.length - i ≤ q then l[l.length - 1 - q]? else l[q]?) (h0 : ¬ i < l.length - 1 - i) : X = l.reverse := by
  apply List.ext_getElem?
  intro q
  by_cases hq : q < l.length
  · rw [h q hq, List.getElem?_reverse hq]
    by_cases c3 : q < i ∨ l.length - i ≤ q
    · rw [if_pos c3]
    · rw [if_neg c3]; congr 1; omega
  · rw [List.getElem?_eq_none (by omega), List.getElem?_eq_none (by simp; omega)]
set_option maxHeartbeats 2000000 in
theorem reverseSymS_calls (v : Value) (l : List Sym) (w : World) (B : Base) (hm : Mem B [rowO 60 2 v l.length (l.flatMap symC)] w) (hn : l.length ≤ 9223372036854775807) :
    Calls Try.prog 20 #[v] w (MeetsB ⟨fun (_ : Unit) => True, fun _ => .tuple #[], fun _ => [rowO 60 2 v l.length (l.reverse.flatMap symC)]⟩ B) := by
  have h1 : ∀ a, (symC a).all Value.oneCell' = true := fun a => List.all_eq_true.2 fun u hu => one_sym [a] u (by simpa using hu)
  refine enterB hm (args := [v]) (n := 28) Try.func20 rfl rfl rfl ?_
  refine T_rowc (i := 0) rfl (fun hv h0 => ?_) (fun g cap hv => ?_)
  · have hl : l = [] := List.eq_nil_of_length_eq_zero h0
    subst hv hl
    repeat(first|refine QV QP ?_|refine QZ ?_|refine qcT rfl ?_|refine qcF rfl ?_|refine E_blockX ?_|refine E_blockO rfl ?_|refine QV (rr_sub64 (r := -1) rfl rfl (by decide) (by decide) rfl) ?_|refine QV QL ?_|refine QV QlT ?_|refine QV QlF ?_|refine QV QaA ?_|refine QV QaS ?_)
    refine T_loop (ι := Unit) (fun _ => True) (fun _ => [(0, .slice none 0 0), (2, .int .i64 0), (3, .int .i64 (-1))]) (fun _ => [rowO 60 2 (.slice none 0 0) 0 []]) (fun _ => 0) () trivial (by repeat' (first | exact True.intro | refine And.intro rfl ?_)) rfl ?_
    intro _ _
    repeat(first|refine QV QP ?_|refine QZ ?_|refine qcT rfl ?_|refine qcF rfl ?_|refine E_blockX ?_|refine E_blockO rfl ?_|refine QV (rr_lss (b := false) rfl rfl (by decide)) ?_|refine QV QL ?_|refine QV QlT ?_|refine QV QlF ?_|refine QV QaA ?_|refine QV QaS ?_)
    exact E_end0 rfl fun w hm => hm.meetsB (S := ⟨fun (_ : Unit) => True, fun _ => .tuple #[], fun _ => [rowO 60 2 (.slice none 0 0) 0 []]⟩) () trivial [0] (by decide) rfl
  · subst hv
    repeat(first|refine QV QP ?_|refine QZ ?_|refine qcT rfl ?_|refine qcF rfl ?_|refine E_blockX ?_|refine E_blockO rfl ?_|refine QV QL ?_|refine QV QlT ?_|refine QV QlF ?_|refine QV QaA ?_|refine QV QaS ?_)
    refine T_loop (ι := Nat × List Sym) (fun (i, X) => i ≤ l.length ∧ X.length = l.length ∧ ∀ q, q < l.length → X[q]? = if q < i ∨ l.length - i ≤ q then l[l.length - 1 - q]? else l[q]?) (fun (i, X) => [(0, .slice (some ⟨g, 0, none⟩) l.length cap), (2, .int .i64 (i : Int)), (3, .int .i64 ((l.length : Int) - 1 - (i : Int)))]) (fun (i, X) => [rowO 60 2 (.slice (some ⟨g, 0, none⟩) l.length cap) l.length (X.flatMap symC)]) (fun (i, X) => l.length - i) (0, l) ⟨Nat.zero_le _, rfl, fun q hq => by rw [if_neg (by omega)]⟩ ⟨rfl, rfl, by show _ = some (Value.int .i64 ((l.length : Int) - 1 - 0)); rw [Int.sub_zero]; rfl, trivial⟩ rfl ?_
    rintro ⟨i, X⟩ ⟨h2, h3, h4⟩
    dsimp only at h2 h3 h4 ⊢
    by_cases c1 : i < l.length - 1 - i
    · have e1 : ((l.length : Int) - 1 - (i : Int)) = ((l.length - 1 - i : Nat) : Int) := by omega
      rw [e1]
      generalize hj : l.length - 1 - i = j at *
      have hi : i < X.length := by omega
      have hjl : j < X.length := by omega
      have hat1 := at_rowel (L := [rowO 60 2 (.slice (some ⟨g, 0, none⟩) l.length cap) l.length (X.flatMap symC)]) (i := 0) SymS_len (W := B) rfl hi
      have hat2 := at_rowel (L := [rowO 60 2 (.slice (some ⟨g, 0, none⟩) l.length cap) l.length (X.flatMap symC)]) (i := 0) SymS_len (W := B) rfl hjl
      have hx : X[i]? = some X[i] := List.getElem?_eq_getElem hi
      have hy : X[j]? = some X[j] := List.getElem?_eq_getElem hjl
      have hnew := revASymS h3 h4 (by omega) X[i] X[j] hx (by rw [hj]; exact hy)
      rw [hj] at hnew
      generalize X[i] = x at *
      generalize X[j] = y at *
      repeat(first|refine QV QP ?_|refine QZ ?_|refine qcT rfl ?_|refine qcF rfl ?_|refine E_blockX ?_|refine E_blockO rfl ?_|refine QV QL ?_|refine QV QlT ?_|refine QV QlF ?_|refine QV QaA ?_|refine QV QaS ?_)
      (repeat refine T_seq ?_)
      refine T_ord ([]) (.calm 0 (.calm 1 (.calm 2 (.calm 3 (.calm 4 (.calm 5 (.calm 6 (.calm 8 (.calm 9 (.calm 10 (.two 7 (.one 11 (.calm 12 (.one 13 (.calm 14 (.one 15 (.done)))))) 11 (.one 7 (.calm 12 (.one 13 (.calm 14 (.one 15 (.done))))))))))))))))) (sub_nil) (by kernel_rfl) (by kernel_rfl) (by intro c a d v w h; cases d <;> exact h) ?_
      repeat(first|((first|refine TW_plain rfl rfl ?_|refine TW_gmet rfl rfl rfl rfl ?_);first|refine QW QP ?_|refine QW (rr_idxc (j := i) Und.eq TyC.ty rfl rfl (by omega)) ?_|refine QW (rr_idxc (j := j) Und.eq TyC.ty rfl rfl (by omega)) ?_|refine QW QL ?_|refine QW QlT ?_|refine QW QlF ?_|refine QW QaA ?_|refine QW QaS ?_)|refine TW_done ?_)
      refine TW_two rfl rfl ?_ ?_
      · refine TL_val (rr_loadN TyC.ty rfl rfl hat2) rfl rfl rfl (TW_on sub_nil ?_)
        refine TW_one rfl (TL_val (rr_loadN TyC.ty rfl rfl hat1) rfl rfl rfl (TW_on sub_nil ?_))
        repeat(first|((first|refine TW_plain rfl rfl ?_|refine TW_gmet rfl rfl rfl rfl ?_);first|refine QW QP ?_|refine QW (rr_idxc (j := i) Und.eq TyC.ty rfl rfl (by omega)) ?_|refine QW (rr_idxc (j := j) Und.eq TyC.ty rfl rfl (by omega)) ?_|refine QW QL ?_|refine QW QlT ?_|refine QW QlF ?_|refine QW QaA ?_|refine QW QaS ?_)|refine TW_done ?_)
        refine TW_one rfl (TL_setRow (i := 0) (k := i) (a := y) SymS_len TyC.ty rfl rfl (Nat.zero_add _) (by omega) h3.symm rfl rfl (h1 y) (TW_on sub_nil ?_))
        repeat(first|((first|refine TW_plain rfl rfl ?_|refine TW_gmet rfl rfl rfl rfl ?_);first|refine QW QP ?_|refine QW (rr_idxc (j := i) Und.eq TyC.ty rfl rfl (by omega)) ?_|refine QW (rr_idxc (j := j) Und.eq TyC.ty rfl rfl (by omega)) ?_|refine QW QL ?_|refine QW QlT ?_|refine QW QlF ?_|refine QW QaA ?_|refine QW QaS ?_)|refine TW_done ?_)
        refine TW_one rfl (TL_setRow (i := 0) (k := j) (a := x) SymS_len TyC.ty rfl rfl (Nat.zero_add _) (by simp; omega) (by simp [h3]) rfl rfl (h1 x) (TW_on sub_nil ?_))
        repeat(first|((first|refine TW_plain rfl rfl ?_|refine TW_gmet rfl rfl rfl rfl ?_);first|refine QW QP ?_|refine QW QL ?_|refine QW QlT ?_|refine QW QlF ?_|refine QW QaA ?_|refine QW QaS ?_)|refine TW_done ?_)
        repeat(first|refine QV QP ?_|refine QZ ?_|refine qcT rfl ?_|refine qcF rfl ?_|refine E_blockX ?_|refine E_blockO rfl ?_|refine QV QL ?_|refine QV QlT ?_|refine QV QlF ?_|refine QV QaA ?_|refine QV QaS ?_)
        exact E_round (i + 1, (X.set i y).set j x) ⟨by omega, by simp [h3], hnew⟩ (by show l.length - (i + 1) < l.length - i; omega) ⟨rfl, rfl, by show _ = some (Value.int .i64 ((l.length : Int) - 1 - ((i + 1 : Nat) : Int))); rw [show (l.length : Int) - 1 - ((i + 1 : Nat) : Int) = (j : Int) - 1 by omega]; rfl, trivial⟩ rfl
      · refine TL_val (rr_loadN TyC.ty rfl rfl hat1) rfl rfl rfl (TW_on sub_nil ?_)
        refine TW_one rfl (TL_val (rr_loadN TyC.ty rfl rfl hat2) rfl rfl rfl (TW_on sub_nil ?_))
        repeat(first|((first|refine TW_plain rfl rfl ?_|refine TW_gmet rfl rfl rfl rfl ?_);first|refine QW QP ?_|refine QW (rr_idxc (j := i) Und.eq TyC.ty rfl rfl (by omega)) ?_|refine QW (rr_idxc (j := j) Und.eq TyC.ty rfl rfl (by omega)) ?_|refine QW QL ?_|refine QW QlT ?_|refine QW QlF ?_|refine QW QaA ?_|refine QW QaS ?_)|refine TW_done ?_)
        refine TW_one rfl (TL_setRow (i := 0) (k := i) (a := y) SymS_len TyC.ty rfl rfl (Nat.zero_add _) (by omega) h3.symm rfl rfl (h1 y) (TW_on sub_nil ?_))
        repeat(first|((first|refine TW_plain rfl rfl ?_|refine TW_gmet rfl rfl rfl rfl ?_);first|refine QW QP ?_|refine QW (rr_idxc (j := i) Und.eq TyC.ty rfl rfl (by omega)) ?_|refine QW (rr_idxc (j := j) Und.eq TyC.ty rfl rfl (by omega)) ?_|refine QW QL ?_|refine QW QlT ?_|refine QW QlF ?_|refine QW QaA ?_|refine QW QaS ?_)|refine TW_done ?_)
        refine TW_one rfl (TL_setRow (i := 0) (k := j) (a := x) SymS_len TyC.ty rfl rfl (Nat.zero_add _) (by simp; omega) (by simp [h3]) rfl rfl (h1 x) (TW_on sub_nil ?_))
        repeat(first|((first|refine TW_plain rfl rfl ?_|refine TW_gmet rfl rfl rfl rfl ?_);first|refine QW QP ?_|refine QW QL ?_|refine QW QlT ?_|refine QW QlF ?_|refine QW QaA ?_|refine QW QaS ?_)|refine TW_done ?_)
        repeat(first|refine QV QP ?_|refine QZ ?_|refine qcT rfl ?_|refine qcF rfl ?_|refine E_blockX ?_|refine E_blockO rfl ?_|refine QV QL ?_|refine QV QlT ?_|refine QV QlF ?_|refine QV QaA ?_|refine QV QaS ?_)
        exact E_round (i + 1, (X.set i y).set j x) ⟨by omega, by simp [h3], hnew⟩ (by show l.length - (i + 1) < l.length - i; omega) ⟨rfl, rfl, by show _ = some (Value.int .i64 ((l.length : Int) - 1 - ((i + 1 : Nat) : Int))); rw [show (l.length : Int) - 1 - ((i + 1 : Nat) : Int) = (j : Int) - 1 by omega]; rfl, trivial⟩ rfl
    · have hX := revBSymS h3 h4 c1
      subst hX
      repeat(first|refine QV QP ?_|refine QZ ?_|refine qcT rfl ?_|refine qcF rfl ?_|refine E_blockX ?_|refine E_blockO rfl ?_|refine QV QL ?_|refine QV QlT ?_|refine QV QlF ?_|refine QV QaA ?_|refine QV QaS ?_)
      exact E_end0 rfl fun w hm => hm.meetsB (S := ⟨fun (_ : Unit) => True, fun _ => .tuple #[], fun _ => [rowO 60 2 (.slice (some ⟨g, 0, none⟩) l.length cap) l.length (l.reverse.flatMap symC)]⟩) () trivial [0] (by decide) rfl
end Go.Proofs.Ytomkjjpdnmcnnaa.eng

/- FactsE -/
namespace Go.Proofs.Ytomkjjpdnmcnnaa.eng
open Go.RowKit kit mix gramL factsL
section
variable {P : Program} {n : Nat} {W : Base} {fr : Fr} {L : List Own} {dst : Option Tmp} {ty : TypeId} {pos : String} {after : Array Edge} {guard : Option (Nat × Bool)} {t u : TypeId} {x y : Operand} {k : IntKind} {m m' r : Int}
theorem rr_andn (hx : ev fr x = some (.int k m)) (hy : ev fr y = some (.int k m')) (h : bits .andNot k m m' = r) : RR P n W ⟨dst, .binOp .andNot t x y u, ty, pos, after, guard⟩ fr L (.int k r) := rr_bits (.inr (.inr (.inr rfl))) hx hy h
end
theorem meets_of {ι : Type} {S : Spec ι} {w w' : World} {e : Ending} (h : MeetsB S w e w') : Meets S w e w' := let ⟨x, h1, h2, h3⟩ := h; ⟨x, h1, h2, h3.below, h3.newer⟩
theorem build_fac0 (w : World) : (Instr.build 34 (#[] : Array (Nat × Value))).run Try.prog w = .ok (.agg #[.slice none 0 0, .slice none 0 0, .slice none 0 0, .slice none 0 0, .slice none 0 0]) w := by
  go_simp
/-- of a grammar that is none -/
theorem ofE_calls (v : Value) (g : Gram) (w : World) (h : GraR (fun k => k < w.heap.size) w v g) (h0 : checkG g ≠ 0) :
    Calls Try.prog 7 #[v] w (Meets (ret (.tuple #[facV (.slice none 0 0) (.slice none 0 0) (.slice none 0 0) (.slice none 0 0) (.slice none 0 0), .int .i64 (checkG g)])) w) := by
  have hck := fun w' (hg : Gr w w') => checkG_calls v g w' (h.gr hg)
  obtain ⟨vp, rfl, h1, _⟩ := h
  obtain ⟨bp, cp, rfl, hcp, hmp, hrp⟩ := h1
  generalize checkG g = e at *
  obtain ⟨t, n, prods⟩ := g
  dsimp only at *
  refine enter (args := [graV t n (.slice bp prods.length cp)]) (n := 39) Try.func7 rfl rfl rfl ?_
  refine T_seq (T_region (TL_box rfl rfl rfl fun g1 => TL_new rfl fun g2 => ?_))
  repeat(first|refine QV QP ?_|refine QZ ?_|refine qcT rfl ?_|refine qcF rfl ?_|refine E_blockX ?_|refine E_blockO rfl ?_|refine QV (rr_loadB (i := 0) TyC.ty rfl rfl rfl) ?_|refine QV QA ?_|refine QV QnT ?_|refine QV QnF ?_)
  refine TL_call (he1 EntersC.en rfl rfl) (fun w hm => hck _ hm.below) rfl rfl rfl ?_
  intro _ _
  conv=>arg 8;simp only[zA,zB,zC,zD,zE,zF,zG,zH,zI,rowS,ret,id_eq]
  repeat(first|refine QV QP ?_|refine QZ ?_|refine qcT rfl ?_|refine qcF rfl ?_|refine E_blockX ?_|refine E_blockO rfl ?_|refine QV (rr_build rfl build_fac0) ?_|refine QV QA ?_|refine QV QnT ?_|refine QV QnF ?_)
  refine TL_storeB (i := 1) rfl rfl rfl rfl rfl rfl ?_
  repeat(first|refine QV QP ?_|refine QZ ?_|refine qcT rfl ?_|refine qcF rfl ?_|refine E_blockX ?_|refine E_blockO rfl ?_|refine QV QA ?_|refine QV QnT ?_|refine QV QnF ?_)
  exact E_retc2 (i := 1) rfl rfl rfl rfl rfl fun w hm => hm.ret
end Go.Proofs.Ytomkjjpdnmcnnaa.eng

/- FactsF -/
namespace Go.Proofs.Ytomkjjpdnmcnnaa.eng
open Go.RowKit kit mix gramL factsL
/-- is a symbol wrong? -/
def badE (t n : Int) : List Sym → Int
  | [] => 0
  | x :: r => if right t n x = true then badE t n r else 1
theorem badE_ok {t n : Int} : ∀ {l : List Sym}, badE t n l = 0 → ∀ x ∈ l, right t n x = true
  | [], _, _, h => by cases h
  | y :: r, h, x, hx => by
    unfold badE at h
    split at h
    · rename_i c
      rcases List.mem_cons.1 hx with rfl | hx
      · exact c
      · exact badE_ok h x hx
    · cases h
theorem badE_of {t n : Int} : ∀ {l : List Sym}, (∀ x ∈ l, right t n x = true) → badE t n l = 0
  | [], _ => rfl
  | y :: r, h => by unfold badE; rw [if_pos (h y (by simp))]; exact badE_of fun x hx => h x (by simp [hx])
def begE (g : Gram) (body : List Sym) : Int := if checkG g ≠ 0 then checkG g else if 60 < body.length then 1 else badE g.terms g.nons body
def begV (g : Gram) (body : List Sym) (behind : Nat) : Nat := if begE g body = 0 then beginF (ofS g.nons.toNat g.prods).E (ofF g.nons.toNat g.prods) body behind else 0
theorem wrong_cases {t n : Int} {x : Sym} (h : right t n x = false) : (x.1 ≠ 1 ∧ x.1 ≠ 2) ∨ (x.1 = 1 ∧ x.2 < 0) ∨ (x.1 = 1 ∧ 0 ≤ x.2 ∧ t ≤ x.2) ∨ (x.1 = 2 ∧ x.2 < 0) ∨ (x.1 = 2 ∧ 0 ≤ x.2 ∧ n ≤ x.2) := by
  unfold right at h
  split at h
  · simp at h; omega
  · split at h
    · simp at h; omega
    · omega
theorem right_cases {t n : Int} {x : Sym} (h : right t n x = true) : (x.1 = 1 ∧ 0 ≤ x.2 ∧ x.2 < t) ∨ (x.1 = 2 ∧ 0 ≤ x.2 ∧ x.2 < n) := by
  unfold right at h
  split at h
  · simp at h; omega
  · split at h
    · simp at h; omega
    · simp at h
theorem checkG_pos {g : Gram} : 0 ≤ checkG g := by
  unfold checkG
  repeat' split
  all_goals first | omega | skip
  have : ∀ l, 0 ≤ prodsE g.terms g.nons l := by
    intro l
    induction l with
    | nil => exact Int.le_refl _
    | cons p r ih =>
      unfold prodsE
      split
      · unfold prodE; repeat' split
        all_goals omega
      · exact ih
  exact this _
theorem ofW_ok {g : Gram} {n : Nat} (hck : checkG g = 0) (hn : g.nons = n) : okR n (ofS n g.prods) ∧ okW n (ofF n g.prods) := by
  have hf := fine_of hck hn
  constructor
  · obtain ⟨s', h1, h2, h3⟩ := fix_end (fallsS hf) _ ⟨List.replicate n false, (List.replicate n false).set 0 true, List.replicate n false, false⟩ ⟨by simp, by simp, by simp⟩ (Nat.le_refl _)
    unfold ofS
    rw [h3]
    exact (fallsS hf).keep _ h1
  · obtain ⟨s', h1, h2, h3⟩ := fix_end (fallsF (E := (ofS n g.prods).E) (M := (ofS n g.prods).M) hf) _ (List.replicate n 0) ⟨by simp, fun x hx => by rw [List.eq_of_mem_replicate hx]; decide⟩ (Nat.le_refl _)
    unfold ofF setsF
    rw [h3]
    exact (fallsF hf).keep _ h1
set_option maxHeartbeats 4000000 in
theorem factsBegin_calls (v vb : Value) (g : Gram) (body : List Sym) (behind : Nat) (w : World) (h : GraR (fun k => k < w.heap.size) w v g) (hs : Sl w vb body.length (body.flatMap symC)) (hb : behind < 18446744073709551616) :
    Calls Try.prog 26 #[v, vb, bitV behind] w (Meets (ret (.tuple #[bitV (begV g body behind), .int .i64 (begE g body)])) w) := by
  by_cases c0 : checkG g = 0
  · obtain ⟨_, _, k1, k2, k3, k4⟩ := checkG_ok c0
    obtain ⟨n, hn⟩ : ∃ n : Nat, g.nons = n := ⟨g.nons.toNat, by omega⟩
    have hof := fun w' (hg : Gr w w') => of_calls v g w' (h.gr hg) c0 n hn
    obtain ⟨hS, hF⟩ := ofW_ok c0 hn
    obtain ⟨vp, rfl, h1, _⟩ := h
    obtain ⟨bp, cp, rfl, hcp, hmp, hrp⟩ := h1
    clear hrp
    have hs0 := hs
    obtain ⟨bb, cb, rfl, h4, h5, h6⟩ := hs
    unfold maxLen at h5
    obtain ⟨t, nn, prods⟩ := g
    dsimp only at *
    subst hn
    have hbg := fun (vE vF vL vR vM : Value) w' (hg : Gr w w') (hE : Sl w' vE n ((ofS n prods).E.map .bool)) (hF2 : Sl w' vF n ((ofF n prods).map bitV)) hok => begin_calls vE vF vL vR vM _ (ofS n prods).E (ofF n prods) body behind w' (by rw [hS.1]; exact hE) (by rw [hF.1]; exact hF2) (hs0.gr hg) (by rw [hS.1, hF.1]) hok hF.2 hb
    rw [hF.1] at hbg
    have hV : begV ⟨t, n, prods⟩ body behind = if begE ⟨t, n, prods⟩ body = 0 then beginF (ofS n prods).E (ofF n prods) body behind else 0 := rfl
    have hE : begE ⟨t, n, prods⟩ body = if 60 < body.length then 1 else badE t n body := by
      unfold begE
      rw [if_neg (by rw [c0]; simp)]
    generalize begV ⟨t, n, prods⟩ body behind = rV at *
    generalize begE ⟨t, n, prods⟩ body = rE at *
    refine enter (args := [graV t (n : Int) (.slice bp prods.length cp), .slice bb body.length cb, bitV behind]) (n := 71) Try.func26 rfl rfl rfl ?_
    refine T_seq (T_region (TL_box rfl rfl rfl fun g3 => ?_))
    repeat(first|refine QV QP ?_|refine QZ ?_|refine qcT rfl ?_|refine qcF rfl ?_|refine E_blockX ?_|refine E_blockO rfl ?_|refine qs rfl rfl rfl rfl rfl rfl ?_|((try refine qg rfl rfl rfl ?_);first|refine QV QP ?_|refine QV (rr_loadB (i := 0) TyC.ty rfl rfl rfl) ?_|refine QV QL ?_|refine QV QA ?_|refine QV QlT ?_|refine QV QlF ?_|refine QV QgT ?_|refine QV QgF ?_|refine QV QnT ?_|refine QV QnF ?_|refine QV QaA ?_|refine QV QhT ?_|refine QV QhF ?_|refine QV QeT ?_|refine QV QeF ?_))
    refine TL_call (he1 EntersC.en rfl rfl) (fun w' hm => (hof w' hm.below).mono fun e w2 h => meets_of h) rfl rfl rfl ?_
    intro x _
    conv=>arg 8;simp only[zA,zB,zC,zD,zE,zF,zG,zH,zI,rowS,ret,id_eq, Rows5.val]
    repeat(first|refine QV QP ?_|refine QZ ?_|refine qcT rfl ?_|refine qcF rfl ?_|refine E_blockX ?_|refine E_blockO rfl ?_|refine qs rfl rfl rfl rfl rfl rfl ?_|((try refine qg rfl rfl rfl ?_);first|refine QV QP ?_|refine QV QL ?_|refine QV QA ?_|refine QV QlT ?_|refine QV QlF ?_|refine QV QgT ?_|refine QV QgF ?_|refine QV QnT ?_|refine QV QnF ?_|refine QV QaA ?_|refine QV QhT ?_|refine QV QhF ?_|refine QV QeT ?_|refine QV QeF ?_))
    refine TL_new rfl fun g8 => ?_
    refine TL_storeB (i := 6) rfl rfl rfl rfl rfl rfl ?_
    conv=>arg 8;simp only[zA,zB,zC,zD,zE,zF,zG,zH,zI,rowS,ret,id_eq]
    by_cases c1 : 60 < body.length
    · rw [if_pos c1] at hE
      subst hE
      rw [if_neg (by decide)] at hV
      subst hV
      repeat(first|refine QV QP ?_|refine QZ ?_|refine qcT rfl ?_|refine qcF rfl ?_|refine E_blockX ?_|refine E_blockO rfl ?_|refine qs rfl rfl rfl rfl rfl rfl ?_|((try refine qg rfl rfl rfl ?_);first|refine QV QP ?_|refine QV QL ?_|refine QV QA ?_|refine QV QlT ?_|refine QV QlF ?_|refine QV QgT ?_|refine QV QgF ?_|refine QV QnT ?_|refine QV QnF ?_|refine QV QaA ?_|refine QV QhT ?_|refine QV QhF ?_|refine QV QeT ?_|refine QV QeF ?_))
      exact E_ret2 rfl rfl rfl fun w hm => hm.ret
    rw [if_neg c1] at hE
    repeat(first|refine QV QP ?_|refine QZ ?_|refine qcT rfl ?_|refine qcF rfl ?_|refine E_blockX ?_|refine E_blockO rfl ?_|refine qs rfl rfl rfl rfl rfl rfl ?_|((try refine qg rfl rfl rfl ?_);first|refine QV QP ?_|refine QV QL ?_|refine QV QA ?_|refine QV QlT ?_|refine QV QlF ?_|refine QV QgT ?_|refine QV QgF ?_|refine QV QnT ?_|refine QV QnF ?_|refine QV QaA ?_|refine QV QhT ?_|refine QV QhF ?_|refine QV QeT ?_|refine QV QeF ?_))
    refine T_loop (ι := Nat) (fun k => k ≤ body.length ∧ rE = badE t n (body.drop k)) (fun k => [(1, .slice bb body.length cb), (2, bitV behind), (3, .pointer (some ⟨g3, 0, none⟩)), (8, .pointer (some ⟨g8, 0, none⟩)), (23, .slice bb body.length cb), (24, .int .i64 body.length), (25, .int .i64 (k : Int))])
      (fun _ => [blkO g3 (graV t (n : Int) (.slice bp prods.length cp)).cells 24, rowBn n x.gE x.cE (ofS n prods).E, rowNn n x.gF x.cF (ofF n prods), rowNn n x.gW x.cW (ofW n prods), rowBn n x.gR x.cR (ofS n prods).R, rowBn n x.gM x.cM (ofS n prods).M, blkO g8 (facV (vRow n x.gE x.cE) (vRow n x.gF x.cF) (vRow n x.gW x.cW) (vRow n x.gR x.cR) (vRow n x.gM x.cM)).cells 34]) (fun k => body.length - k) 0 ⟨Nat.zero_le _, hE⟩ (by repeat' (first | exact True.intro | refine And.intro rfl ?_)) rfl ?_
    rintro k ⟨i1, i2⟩
    by_cases c6 : k < body.length
    · obtain ⟨b, off, rfl, hr⟩ := h6 (by omega)
      have hat := fun L => at_el (L := L) SymS_len hr c6
      rw [List.drop_eq_getElem_cons c6, badE] at i2
      clear h6 hr hs0 hbg
      generalize body[k] = y at *
      cases r : right t n y
      · rw [if_neg (by rw [r]; decide)] at i2
        clear hE
        subst i2
        rw [if_neg (by decide)] at hV
        subst hV
        have r' := wrong_cases r
        obtain ⟨q, m⟩ := y
        dsimp only at r'
        rcases r' with r' | r' | r' | r' | r'
        all_goals
          repeat(first|refine QV QP ?_|refine QZ ?_|refine qcT rfl ?_|refine qcF rfl ?_|refine E_blockX ?_|refine E_blockO rfl ?_|refine qs rfl rfl rfl rfl rfl rfl ?_|((try refine qg rfl rfl rfl ?_);first|refine QV QP ?_|refine QV (rr_idxc Und.eq TyC.ty rfl rfl c6) ?_|refine QV (rr_loadN TyC.ty rfl rfl (hat _)) ?_|refine QV QL ?_|refine QV QA ?_|refine QV QlT ?_|refine QV QlF ?_|refine QV QgT ?_|refine QV QgF ?_|refine QV QnT ?_|refine QV QnF ?_|refine QV QaA ?_|refine QV QhT ?_|refine QV QhF ?_|refine QV QeT ?_|refine QV QeF ?_))
          refine TL_new rfl fun g11 => ?_
          refine TL_storeB (i := 7) rfl rfl rfl rfl rfl rfl ?_
          conv=>arg 8;simp only[zA,zB,zC,zD,zE,zF,zG,zH,zI,rowS,ret,id_eq]
          repeat(first|refine QV QP ?_|refine QZ ?_|refine qcT rfl ?_|refine qcF rfl ?_|refine E_blockX ?_|refine E_blockO rfl ?_|refine qs rfl rfl rfl rfl rfl rfl ?_|((try refine qg rfl rfl rfl ?_);first|refine QV QP ?_|refine QV (rr_load1 TyC.ty rfl (at_blk (i := 7) rfl rfl)) ?_|refine QV (rr_load1 TyC.ty rfl (at_blk (i := 0) rfl rfl)) ?_|refine QV QL ?_|refine QV QA ?_|refine QV QlT ?_|refine QV QlF ?_|refine QV QgT ?_|refine QV QgF ?_|refine QV QnT ?_|refine QV QnF ?_|refine QV QaA ?_|refine QV QhT ?_|refine QV QhF ?_|refine QV QeT ?_|refine QV QeF ?_))
          exact E_ret2 rfl rfl rfl fun w hm => hm.ret
      · rw [if_pos r] at i2
        have r' := right_cases r
        obtain ⟨q, m⟩ := y
        dsimp only at r'
        rcases r' with r' | r'
        all_goals
          repeat(first|refine QV QP ?_|refine QZ ?_|refine qcT rfl ?_|refine qcF rfl ?_|refine E_blockX ?_|refine E_blockO rfl ?_|refine qs rfl rfl rfl rfl rfl rfl ?_|((try refine qg rfl rfl rfl ?_);first|refine QV QP ?_|refine QV (rr_idxc Und.eq TyC.ty rfl rfl c6) ?_|refine QV (rr_loadN TyC.ty rfl rfl (hat _)) ?_|refine QV QL ?_|refine QV QA ?_|refine QV QlT ?_|refine QV QlF ?_|refine QV QgT ?_|refine QV QgF ?_|refine QV QnT ?_|refine QV QnF ?_|refine QV QaA ?_|refine QV QhT ?_|refine QV QhF ?_|refine QV QeT ?_|refine QV QeF ?_))
          refine TL_new rfl fun g11 => ?_
          refine TL_storeB (i := 7) rfl rfl rfl rfl rfl rfl ?_
          conv=>arg 8;simp only[zA,zB,zC,zD,zE,zF,zG,zH,zI,rowS,ret,id_eq]
          repeat(first|refine QV QP ?_|refine QZ ?_|refine qcT rfl ?_|refine qcF rfl ?_|refine E_blockX ?_|refine E_blockO rfl ?_|refine qs rfl rfl rfl rfl rfl rfl ?_|((try refine qg rfl rfl rfl ?_);first|refine QV QP ?_|refine QV (rr_load1 TyC.ty rfl (at_blk (i := 7) rfl rfl)) ?_|refine QV (rr_load1 TyC.ty rfl (at_blk (i := 0) rfl rfl)) ?_|refine QV QL ?_|refine QV QA ?_|refine QV QlT ?_|refine QV QlF ?_|refine QV QgT ?_|refine QV QgF ?_|refine QV QnT ?_|refine QV QnF ?_|refine QV QaA ?_|refine QV QhT ?_|refine QV QhF ?_|refine QV QeT ?_|refine QV QeF ?_))
          refine E_pick [0, 1, 2, 3, 4, 5, 6] (by decide) rfl ?_
          exact E_round (k + 1) ⟨by omega, i2⟩ (by show body.length - (k + 1) < body.length - k; omega) (by repeat' (first | exact True.intro | refine And.intro rfl ?_)) rfl
    · rw [List.drop_of_length_le (by omega)] at i2
      have i2 : rE = 0 := by rw [i2]; rfl
      have hall : ∀ x ∈ body, right t n x = true := badE_ok (hE.symm.trans i2)
      clear hE
      rw [if_pos i2] at hV
      subst i2 hV
      repeat(first|refine QV QP ?_|refine QZ ?_|refine qcT rfl ?_|refine qcF rfl ?_|refine E_blockX ?_|refine E_blockO rfl ?_|refine qs rfl rfl rfl rfl rfl rfl ?_|((try refine qg rfl rfl rfl ?_);first|refine QV QP ?_|refine QV (rr_loadB (i := 6) TyC.ty rfl rfl rfl) ?_|refine QV QL ?_|refine QV QA ?_|refine QV QlT ?_|refine QV QlF ?_|refine QV QgT ?_|refine QV QgF ?_|refine QV QnT ?_|refine QV QnF ?_|refine QV QaA ?_|refine QV QhT ?_|refine QV QhF ?_|refine QV QeT ?_|refine QV QeF ?_))
      refine TL_call (he3 EntersC.en rfl rfl rfl rfl) (fun w hm => hbg _ _ _ _ _ w hm.below (sl_row (i := 1) rfl w hm) (sl_row (i := 2) rfl w hm) (fun x hx => by have := right_cases (hall x hx); omega)) rfl rfl rfl ?_
      intro _ _
      repeat(first|refine QV QP ?_|refine QZ ?_|refine qcT rfl ?_|refine qcF rfl ?_|refine E_blockX ?_|refine E_blockO rfl ?_|refine qs rfl rfl rfl rfl rfl rfl ?_|((try refine qg rfl rfl rfl ?_);first|refine QV QP ?_|refine QV QL ?_|refine QV QA ?_|refine QV QlT ?_|refine QV QlF ?_|refine QV QgT ?_|refine QV QgF ?_|refine QV QnT ?_|refine QV QnF ?_|refine QV QaA ?_|refine QV QhT ?_|refine QV QhF ?_|refine QV QeT ?_|refine QV QeF ?_))
      exact E_ret2 rfl rfl rfl fun w hm => hm.ret
  · have hof := fun w' (hg : Gr w w') => ofE_calls v g w' (h.gr hg) c0
    have hE : begE g body = checkG g := by unfold begE; rw [if_pos c0]
    have hV : begV g body behind = 0 := by unfold begV; rw [hE, if_neg c0]
    rw [hE, hV]
    obtain ⟨vp, rfl, h1, _⟩ := h
    obtain ⟨bb, cb, rfl, _⟩ := hs
    generalize checkG g = e at *
    obtain ⟨t, n, prods⟩ := g
    dsimp only at *
    refine enter (args := [graV t n vp, .slice bb body.length cb, bitV behind]) (n := 71) Try.func26 rfl rfl rfl ?_
    refine T_seq (T_region (TL_box rfl rfl rfl fun g3 => ?_))
    repeat(first|refine QV QP ?_|refine QZ ?_|refine qcT rfl ?_|refine qcF rfl ?_|refine E_blockX ?_|refine E_blockO rfl ?_|refine qs rfl rfl rfl rfl rfl rfl ?_|((try refine qg rfl rfl rfl ?_);first|refine QV QP ?_|refine QV (rr_loadB (i := 0) TyC.ty rfl rfl rfl) ?_|refine QV QL ?_|refine QV QA ?_|refine QV QlT ?_|refine QV QlF ?_|refine QV QgT ?_|refine QV QgF ?_|refine QV QnT ?_|refine QV QnF ?_|refine QV QaA ?_|refine QV QhT ?_|refine QV QhF ?_|refine QV QeT ?_|refine QV QeF ?_))
    refine TL_call (he1 EntersC.en rfl rfl) (fun w hm => hof _ hm.below) rfl rfl rfl ?_
    intro _ _
    repeat(first|refine QV QP ?_|refine QZ ?_|refine qcT rfl ?_|refine qcF rfl ?_|refine E_blockX ?_|refine E_blockO rfl ?_|refine qs rfl rfl rfl rfl rfl rfl ?_|((try refine qg rfl rfl rfl ?_);first|refine QV QP ?_|refine QV QL ?_|refine QV QA ?_|refine QV QlT ?_|refine QV QlF ?_|refine QV QgT ?_|refine QV QgF ?_|refine QV QnT ?_|refine QV QnF ?_|refine QV QaA ?_|refine QV QhT ?_|refine QV QhF ?_|refine QV QeT ?_|refine QV QeF ?_))
    refine TL_new rfl fun g8 => ?_
    refine TL_storeB (i := 1) rfl rfl rfl rfl rfl rfl ?_
    repeat(first|refine QV QP ?_|refine QZ ?_|refine qcT rfl ?_|refine qcF rfl ?_|refine E_blockX ?_|refine E_blockO rfl ?_|refine qs rfl rfl rfl rfl rfl rfl ?_|((try refine qg rfl rfl rfl ?_);first|refine QV QP ?_|refine QV QL ?_|refine QV QA ?_|refine QV QlT ?_|refine QV QlF ?_|refine QV QgT ?_|refine QV QgF ?_|refine QV QnT ?_|refine QV QnF ?_|refine QV QaA ?_|refine QV QhT ?_|refine QV QhF ?_|refine QV QeT ?_|refine QV QeF ?_))
    exact E_ret2 rfl rfl rfl fun w hm => hm.ret
end Go.Proofs.Ytomkjjpdnmcnnaa.eng

/- TreeL -/
namespace Go.Proofs.Ytomkjjpdnmcnnaa.treeL
open gramL
inductive Tree where
  | mk (prod tok : Int) (kids : List Tree)
def Tree.prod : Tree → Int | .mk p _ _ => p
def Tree.tok : Tree → Int | .mk _ t _ => t
def Tree.kids : Tree → List Tree | .mk _ _ k => k
def prodAt (l : List gramL.Prod) (p : Int) : gramL.Prod := l.getD p.toNat (0, [])
mutual
def size : Tree → Nat
  | .mk _ _ kids => sizes kids + 1
def sizes : List Tree → Nat
  | [] => 0
  | k :: r => size k + sizes r
end
/-! ### what each does -/
inductive Deed where
  | ahead (p : Int)
  | behind (p : Int)
  | leaf (term tok : Int)
mutual
def acts (l : List gramL.Prod) : Tree → List Deed
  | .mk p _ kids => .ahead p :: (actss l kids (prodAt l p).2 ++ [.behind p])
def actss (l : List gramL.Prod) : List Tree → List Sym → List Deed
  | [], _ => []
  | _ :: _, [] => []
  | .mk p k ks :: r, y :: b => (if p < 0 then [.leaf y.2 k] else acts l (.mk p k ks)) ++ actss l r b
end
end Go.Proofs.Ytomkjjpdnmcnnaa.treeL

/- SmL -/
namespace Go.Proofs.Ytomkjjpdnmcnnaa.smallL
/-! ### the first ones -/
section
variable {κ : Type} [DecidableEq κ]
def firsts : List κ → List κ → List κ
  | D, [] => D
  | D, k :: r => firsts (if k ∈ D then D else D ++ [k]) r
def more (D : List κ) (k : κ) : List κ := if k ∈ D then D else D ++ [k]
theorem firsts_snoc : ∀ (l D : List κ) (k : κ), firsts D (l ++ [k]) = more (firsts D l) k
  | [], _, _ => rfl
  | _ :: l, _, k => firsts_snoc l _ k
theorem more_pre (D : List κ) (k : κ) : ∃ E, more D k = D ++ E := by
  unfold more; split
  · exact ⟨[], by simp⟩
  · exact ⟨[k], rfl⟩
theorem mem_more {D : List κ} {k x : κ} : x ∈ more D k ↔ x ∈ D ∨ x = k := by
  unfold more; split
  · rename_i h
    exact ⟨.inl, fun e => e.elim id fun e => e ▸ h⟩
  · simp
theorem mem_firsts {x : κ} : ∀ {l D : List κ}, x ∈ firsts D l ↔ x ∈ D ∨ x ∈ l
  | [], D => by simp [firsts]
  | k :: l, D => by
    show x ∈ firsts (more D k) l ↔ _
    rw [mem_firsts, mem_more, List.mem_cons, or_assoc]
theorem more_nodup {D : List κ} {k : κ} (h : D.Nodup) : (more D k).Nodup := by
  unfold more; split
  · exact h
  · rename_i hk
    exact List.nodup_append.2 ⟨h, by simp, fun a ha b hb e => by simp at hb; subst hb e; exact hk ha⟩
theorem firsts_nodup : ∀ (l D : List κ), D.Nodup → (firsts D l).Nodup
  | [], _, h => h
  | _ :: l, _, h => firsts_nodup l _ (more_nodup h)
/-- the place of one; its list's length, if it isn't there -/
def idx (D : List κ) (k : κ) : Nat := D.idxOf k
theorem idx_lt {D : List κ} {k : κ} (h : k ∈ D) : idx D k < D.length := List.idxOf_lt_length_of_mem h
theorem idx_pre {D E : List κ} {k : κ} (h : k ∈ D) : idx (D ++ E) k = idx D k := by unfold idx; rw [List.idxOf_append, if_pos h]
/-- the number of one that has just come -/
theorem idx_more {D : List κ} {k : κ} : idx (more D k) k = if k ∈ D then idx D k else D.length := by
  unfold more; split
  · rfl
  · rename_i h
    unfold idx; rw [List.idxOf_append, if_neg h]; simp
end
theorem getD_left {α : Type} {l m : List α} {k : Nat} {d : α} (h : k < l.length) : (l ++ m).getD k d = l.getD k d := by
  rw [List.getD_eq_getElem?_getD, List.getElem?_append_left h, List.getD_eq_getElem?_getD]
theorem getD_right {α : Type} {l m : List α} {k : Nat} {d : α} (h : l.length ≤ k) : (l ++ m).getD k d = m.getD (k - l.length) d := by
  rw [List.getD_eq_getElem?_getD, List.getElem?_append_right h, List.getD_eq_getElem?_getD]
theorem nodup_bound {l : List Nat} {m : Nat} (h : l.Nodup) (hb : ∀ x ∈ l, x < m) : l.length ≤ m := by
  have hs : ∀ (l l' : List Nat), l.Nodup → (∀ x ∈ l, x ∈ l') → l.length ≤ l'.length := by
    intro l
    induction l with
    | nil => intro l' _ _; simp
    | cons x l ih =>
      intro l' hn hs
      rw [List.nodup_cons] at hn
      have hx : x ∈ l' := hs x (by simp)
      have := ih (l'.erase x) hn.2 (fun y hy => (List.mem_erase_of_ne (by rintro rfl; exact hn.1 hy)).2 (hs y (by simp [hy])))
      rw [List.length_erase_of_mem hx] at this
      have : 0 < l'.length := List.length_pos_of_mem hx
      simp; omega
  have := hs l (List.range m) h fun x hx => List.mem_range.2 (hb x hx)
  simpa using this
end Go.Proofs.Ytomkjjpdnmcnnaa.smallL

