/- Data of many blocks, read: shapes; owned whole. -/
import Derived.Test.YtnicebdkejkieaaReadM
import Derived.Test.YtnicebdkejkieaaRoom
namespace Go.Proofs.Ytnicebdkejkieaa.eng
open Go.RowKit kit mix
/-- how a datum reads, all of its blocks being in F -/
structure Shp (α : Type) where
  c : Nat
  is : (Nat → Prop) → World → List Value → α → Prop
  len : ∀ {F w cs a}, is F w cs a → cs.length = c
  stay : ∀ {F w w' cs a}, is F w cs a → (∀ k, F k → w'.heap[k]? = w.heap[k]?) → is F w' cs a
  mono : ∀ {F F' w cs a}, is F w cs a → (∀ k, F k → F' k) → is F' w cs a
def All : Nat → Prop := fun _ => True
theorem rd_stay {w w' : World} {b off : Nat} {cs : List Value} (h : Rd w b off cs) (hk : w'.heap[b]? = w.heap[b]?) : Rd w' b off cs := fun j u hj => by
  rw [World.cell?_of_block (w := w) (a := ⟨b, off + j, none⟩) hk]; exact h j u hj
/-- a slice -/
def SlF {α : Type} (s : Shp α) (F : Nat → Prop) (w : World) (v : Value) (l : List α) : Prop :=
  ∃ base cap, v = .slice base l.length cap ∧ l.length ≤ cap ∧ cap ≤ maxLen ∧ (0 < l.length → ∃ b off, base = some ⟨b, off, none⟩ ∧ F b ∧ ∀ i (h : i < l.length), ∃ cs, s.is F w cs l[i] ∧ Rd w b (off + i * s.c) cs)
section
variable {α β : Type} {s : Shp α} {F F' : Nat → Prop} {w w' : World} {v : Value} {l : List α}
theorem SlF.stay (h : SlF s F w v l) (hk : ∀ k, F k → w'.heap[k]? = w.heap[k]?) : SlF s F w' v l :=
  let ⟨base, cap, h1, h2, h3, h4⟩ := h
  ⟨base, cap, h1, h2, h3, fun h0 => let ⟨b, off, h5, h6, h7⟩ := h4 h0; ⟨b, off, h5, h6, fun i hi => let ⟨cs, h8, h9⟩ := h7 i hi; ⟨cs, s.stay h8 hk, rd_stay h9 (hk b h6)⟩⟩⟩
theorem SlF.mono (h : SlF s F w v l) (hk : ∀ k, F k → F' k) : SlF s F' w v l :=
  let ⟨base, cap, h1, h2, h3, h4⟩ := h
  ⟨base, cap, h1, h2, h3, fun h0 => let ⟨b, off, h5, h6, h7⟩ := h4 h0; ⟨b, off, h5, hk b h6, fun i hi => let ⟨cs, h8, h9⟩ := h7 i hi; ⟨cs, s.mono h8 hk, h9⟩⟩⟩
theorem SlF.nil : SlF s F w (.slice none 0 0) [] := ⟨none, 0, rfl, Nat.le_refl _, by decide, fun h => by simp at h⟩
/-- cells that a function tells -/
def flatS (f : α → List Value) (c : Nat) (hc : ∀ a, (f a).length = c) (p : α → Prop) : Shp α :=
  ⟨c, fun _ _ cs a => cs = f a ∧ p a, fun h => by rw [h.1, hc], fun h _ => h, fun h _ => h⟩
def intS : Shp Int := flatS (fun n => [.int .i64 n]) 1 (fun _ => rfl) kit.okI64
def boolS : Shp Bool := flatS (fun b => [.bool b]) 1 (fun _ => rfl) (fun _ => True)
def strS : Shp (List UInt8) := flatS (fun s => [str s]) 1 (fun _ => rfl) (fun s => s.length ≤ 9223372036854775807)
def sliceS (s : Shp α) : Shp (List α) :=
  ⟨1, fun F w cs l => ∃ v, cs = [v] ∧ SlF s F w v l, fun ⟨_, h, _⟩ => by rw [h]; rfl, fun ⟨v, h1, h2⟩ hk => ⟨v, h1, h2.stay hk⟩, fun ⟨v, h1, h2⟩ hk => ⟨v, h1, h2.mono hk⟩⟩
/-- one behind the other -/
def pairS (s : Shp α) (t : Shp β) : Shp (α × β) :=
  ⟨s.c + t.c, fun F w cs x => ∃ c1 c2, cs = c1 ++ c2 ∧ s.is F w c1 x.1 ∧ t.is F w c2 x.2, fun ⟨_, _, h, h1, h2⟩ => by rw [h, List.length_append, s.len h1, t.len h2],
    fun ⟨c1, c2, h, h1, h2⟩ hk => ⟨c1, c2, h, s.stay h1 hk, t.stay h2 hk⟩, fun ⟨c1, c2, h, h1, h2⟩ hk => ⟨c1, c2, h, s.mono h1 hk, t.mono h2 hk⟩⟩
/-- a slice of flat elements -/
theorem SlF.flat {f : α → List Value} {c : Nat} {hc : ∀ a, (f a).length = c} {p : α → Prop} (hc0 : 0 < c) (h : SlF (flatS f c hc p) F w v l) : Sl w v l.length (l.flatMap f) := by
  obtain ⟨base, cap, h1, h2, h3, h4⟩ := h
  have hx : SlX w (fun cs a => cs = f a) c v l := ⟨base, cap, h1, h2, h3, fun h0 => let ⟨b, off, h5, _, h7⟩ := h4 h0; ⟨b, off, h5, fun i hi => let ⟨cs, h8, h9⟩ := h7 i hi; ⟨cs, h8.1, h9⟩⟩⟩
  exact hx.flat hc hc0 fun cs a h => h
theorem SlF.okp {f : α → List Value} {c : Nat} {hc : ∀ a, (f a).length = c} {p : α → Prop} (h : SlF (flatS f c hc p) F w v l) : ∀ a ∈ l, p a := fun a ha => by
  obtain ⟨i, hi, rfl⟩ := List.mem_iff_getElem.1 ha
  obtain ⟨base, cap, h1, h2, h3, h4⟩ := h
  obtain ⟨b, off, _, _, h7⟩ := h4 (by omega)
  obtain ⟨cs, h8, _⟩ := h7 i hi
  exact h8.2
theorem SlF.of_flat {f : α → List Value} {c : Nat} {hc : ∀ a, (f a).length = c} {p : α → Prop} (h : Sl w v l.length (l.flatMap f)) (hp : ∀ a ∈ l, p a) (hF : ∀ b, v.ownBlock = some b → F b) (hF2 : ∀ a n cp, v = .slice (some a) n cp → F a.block) : SlF (flatS f c hc p) F w v l := by
  obtain ⟨base, cap, h1, h2, h3, h4⟩ := h
  refine ⟨base, cap, h1, h2, h3, fun h0 => ?_⟩
  obtain ⟨b, off, h5, h6⟩ := h4 h0
  refine ⟨b, off, h5, hF2 ⟨b, off, none⟩ l.length cap (by rw [h1, h5]), fun i hi => ⟨f l[i], ⟨rfl, hp _ (List.getElem_mem hi)⟩, fun j u hj => ?_⟩⟩
  have hjc : j < c := by rw [← hc l[i]]; exact (List.getElem?_eq_some_iff.1 hj).1
  have := h6 (i * c + j) u (by rw [get_el hc l i j hi hjc]; exact hj)
  rw [Nat.add_assoc]
  exact this
/-- owned whole -/
def shpO (s : Shp α) (F : Nat → Prop) (cs : List Value) (a : α) : Own :=
  ⟨none, F, fun w => s.is F w cs a ∧ ∀ k, F k → k < w.heap.size, fun w h k hk => h.2 k (hk.elim (fun h => by cases h) id), fun w w' h hs hb => ⟨s.stay h.1 fun k hk => hb k (.inr hk), fun k hk => Nat.lt_of_lt_of_le (h.2 k hk) hs⟩⟩
/-- elements, their cells lying elsewhere -/
def elsO (s : Shp α) (F : Nat → Prop) (css : List (List Value)) (l : List α) : Own :=
  ⟨none, F, fun w => (css.length = l.length ∧ ∀ i (h : i < l.length) (h' : i < css.length), s.is F w css[i] l[i]) ∧ ∀ k, F k → k < w.heap.size, fun w h k hk => h.2 k (hk.elim (fun h => by cases h) id),
    fun w w' h hs hb => ⟨⟨h.1.1, fun i hi hi' => s.stay (h.1.2 i hi hi') fun k hk => hb k (.inr hk)⟩, fun k hk => Nat.lt_of_lt_of_le (h.2 k hk) hs⟩⟩
end
def Or1 (F : Nat → Prop) (v : Value) : Nat → Prop := fun k => F k ∨ v.ownBlock = some k
theorem flatten_get {c : Nat} : ∀ (css : List (List Value)) (hc : ∀ x ∈ css, x.length = c) (i j : Nat) (h : i < css.length), j < c → css.flatten[i * c + j]? = css[i][j]?
  | x :: r, hc, 0, j, h, hj => by
    rw [List.flatten_cons, List.getElem?_append_left (by rw [hc x (by simp)]; omega)]; simp
  | x :: r, hc, i + 1, j, h, hj => by
    have hx := hc x (by simp)
    have ih := flatten_get r (fun y hy => hc y (by simp [hy])) i j (by simpa using h) hj
    rw [List.flatten_cons, List.getElem?_append_right (by rw [hx, Nat.succ_mul]; omega), hx]
    simp only [List.getElem_cons_succ]
    rw [← ih, Nat.succ_mul]
    congr 1; omega
section
variable {α : Type} {s : Shp α} {F : Nat → Prop} {w : World} {v : Value} {l : List α}
/-- a row and its elements' own memory make a slice -/
theorem slf_of {e : TypeId} {css : List (List Value)} (hr : (rowO e s.c v l.length css.flatten).holds w) (he : (elsO s F css l).holds w) (hc0 : 0 < s.c) : SlF s (Or1 F v) w v l := by
  have hr : w.ownsRow 0 e s.c v l.length css.flatten := hr
  obtain ⟨⟨h1, h2⟩, h3⟩ := he
  have hlen : ∀ x ∈ css, x.length = s.c := fun x hx => by
    obtain ⟨i, hi, rfl⟩ := List.mem_iff_getElem.1 hx
    exact s.len (h2 i (by omega) hi)
  obtain ⟨base, cap, h4, h5, h6, h7⟩ := Sl.of_own hr
  refine ⟨base, cap, h4, h5, h6, fun h0 => ?_⟩
  have hb : ∃ g, v = .slice (some ⟨g, 0, none⟩) l.length cap ∧ v.ownBlock = some g := by
    rcases hr.2 with ⟨hv, h0'⟩ | ⟨g, cap', cur, hv, _⟩
    · omega
    · rw [h4] at hv
      simp only [Value.slice.injEq, true_and] at hv
      obtain ⟨rfl, rfl⟩ := hv
      exact ⟨g, h4, by rw [h4]; rfl⟩
  obtain ⟨g, hv, hg⟩ := hb
  rw [h4] at hv
  simp only [Value.slice.injEq, and_true] at hv
  subst hv
  obtain ⟨b, off, h8, h9⟩ := h7 h0
  simp only [Option.some.injEq, Addr.mk.injEq, and_true] at h8
  obtain ⟨rfl, rfl⟩ := h8
  refine ⟨g, 0, rfl, .inr hg, fun i hi => ⟨css[i]'(by omega), s.mono (h2 i hi (by omega)) fun k hk => .inl hk, fun j u hj => ?_⟩⟩
  have hjc : j < s.c := by rw [← hlen (css[i]'(by omega)) (List.getElem_mem _)]; exact (List.getElem?_eq_some_iff.1 hj).1
  have := h9 (i * s.c + j) u (by rw [flatten_get css hlen i j (by omega) hjc]; exact hj)
  rw [Nat.add_assoc]
  exact this
theorem slO_lt {e : TypeId} {css : List (List Value)} {n c : Nat} (hr : (rowO e c v n css.flatten).holds w) (he : (elsO s F css l).holds w) : ∀ k, Or1 F v k → k < w.heap.size := fun k hk => hk.elim (he.2 k) fun h => ((rowO e c v n css.flatten).lt w hr k (.inl h))
/-- one element more -/
theorem els_snoc {F2 : Nat → Prop} {css : List (List Value)} {cs : List Value} {a : α} (he : (elsO s F css l).holds w) (hs : s.is F2 w cs a) (h2 : ∀ k, F2 k → k < w.heap.size) : (elsO s (fun k => F k ∨ F2 k) (css ++ [cs]) (l ++ [a])).holds w := by
  obtain ⟨⟨h1, h3⟩, h4⟩ := he
  refine ⟨⟨by simp [h1], fun i hi hi' => ?_⟩, fun k hk => hk.elim (h4 k) (h2 k)⟩
  by_cases c : i < l.length
  · rw [List.getElem_append_left (by omega), List.getElem_append_left c]
    exact s.mono (h3 i c (by omega)) fun k hk => .inl hk
  · have hi2 : i = l.length := by simp at hi; omega
    subst hi2
    rw [List.getElem_append_right (by omega), List.getElem_append_right (Nat.le_refl _)]
    simp only [h1, Nat.sub_self, List.getElem_cons_zero]
    exact s.mono hs fun k hk => .inr hk
theorem els_nil : (elsO s (fun _ => False) [] []).holds w := ⟨⟨rfl, fun i h => by simp at h⟩, fun k h => h.elim⟩
end
section
variable {P : Program} {n : Nat} {W : Base} {fr : Fr} {L : List Own} {Q : Exit → Act → World → Prop} {ops : Array Oper} {rest : List Oper} {d : Nat}
theorem Mem.merge2 {w : World} (o : Own) (i j : Nat) (js : List Nat) {o1 o2 : Own} {R : List Own} (h : Mem W L w) (hn : ([i, j] ++ js).Nodup) (h1 : L[i]? = some o1) (h2 : L[j]? = some o2) (hR : R = js.filterMap fun i => L[i]?) (hf : ∀ k, o.foot k → o1.foot k ∨ o2.foot k) (hh : ∀ w, o1.holds w → o2.holds w → o.holds w) : Mem W (R ++ [o]) w := by
  refine Mem.merge o (h.pick ([i, j] ++ js) hn ?_) hf (hh w)
  rw [List.filterMap_append, ← hR]
  congr 1
  rw [List.filterMap_cons_some (by exact h1), List.filterMap_cons_some (by exact h2)]; rfl
theorem TL_merge (o : Own) (i j : Nat) (js : List Nat) {o1 o2 : Own} {R : List Own} (hn : ([i, j] ++ js).Nodup) (h1 : L[i]? = some o1) (h2 : L[j]? = some o2) (hR : R = js.filterMap fun i => L[i]?) (hf : ∀ k, o.foot k → o1.foot k ∨ o2.foot k) (hh : ∀ w, o1.holds w → o2.holds w → o.holds w) (h : TL P n W ops Q rest fr (R ++ [o])) : TL P n W ops Q rest fr L := ⟨fun a w hr hm => h.go a w hr (hm.merge2 o i j js hn h1 h2 hR hf hh)⟩
theorem T_merge {c : Code} (o : Own) (i j : Nat) (js : List Nat) {o1 o2 : Own} {R : List Own} (hn : ([i, j] ++ js).Nodup) (h1 : L[i]? = some o1) (h2 : L[j]? = some o2) (hR : R = js.filterMap fun i => L[i]?) (hf : ∀ k, o.foot k → o1.foot k ∨ o2.foot k) (hh : ∀ w, o1.holds w → o2.holds w → o.holds w) (h : T P n W c Q fr (R ++ [o])) : T P n W c Q fr L := ⟨fun a w hr hm => h.go a w hr (hm.merge2 o i j js hn h1 h2 hR hf hh)⟩
theorem E_merge {e : Exit} (o : Own) (i j : Nat) (js : List Nat) {o1 o2 : Own} {R : List Own} (hn : ([i, j] ++ js).Nodup) (h1 : L[i]? = some o1) (h2 : L[j]? = some o2) (hR : R = js.filterMap fun i => L[i]?) (hf : ∀ k, o.foot k → o1.foot k ∨ o2.foot k) (hh : ∀ w, o1.holds w → o2.holds w → o.holds w) (h : E n W e Q fr (R ++ [o])) : E n W e Q fr L := ⟨fun a w hr hm => h.go a w hr (hm.merge2 o i j js hn h1 h2 hR hf hh)⟩
/-- what needs no memory -/
theorem Mem.extra {w : World} (o : Own) (h : Mem W L w) (hf : ∀ k, ¬ o.foot k) (hh : o.holds w) : Mem W (L ++ [o]) w :=
  h.append (Gr.refl w) (OwnsP.one hh fun k hk => absurd hk (hf k))
theorem T_extra {c : Code} (o : Own) (hf : ∀ k, ¬ o.foot k) (hh : ∀ w, o.holds w) (h : T P n W c Q fr (L ++ [o])) : T P n W c Q fr L := ⟨fun a w hr hm => h.go a w hr (hm.extra o hf (hh w))⟩
theorem TL_extra (o : Own) (hf : ∀ k, ¬ o.foot k) (hh : ∀ w, o.holds w) (h : TL P n W ops Q rest fr (L ++ [o])) : TL P n W ops Q rest fr L := ⟨fun a w hr hm => h.go a w hr (hm.extra o hf (hh w))⟩
theorem E_extra {e : Exit} (o : Own) (hf : ∀ k, ¬ o.foot k) (hh : ∀ w, o.holds w) (h : E n W e Q fr (L ++ [o])) : E n W e Q fr L := ⟨fun a w hr hm => h.go a w hr (hm.extra o hf (hh w))⟩
/-- an element of an own slice is written over -/
theorem TL_setRow {α : Type} {f : α → List Value} {c : Nat} (hc : ∀ a, (f a).length = c) {t e : TypeId} {p x : Operand} {i g off cap k m : Nat} {agg : Bool} {l : List α} {a : α} {v : Value} (hT : Ty P t agg c) (hi : L[i]? = some (rowO e c (.slice (some ⟨g, 0, none⟩) m cap) m (l.flatMap f))) (hp : ev fr p = some (.pointer (some ⟨g, off, none⟩))) (hoff : off = k * c) (hk : k < l.length) (hm0 : m = l.length) (hx : ev fr x = some v) (hv : v.cells = (f a).toArray) (h1 : (f a).all Value.oneCell' = true)
    {ty : TypeId} {pos : String} {after : Array Edge}
    (h : TL P n W ops Q rest fr (L.set i (rowO e c (.slice (some ⟨g, 0, none⟩) m cap) m ((l.set k a).flatMap f)))) :
    TL P n W ops Q (⟨none, .store t p x, ty, pos, after, none⟩ :: rest) fr L := TL_any rfl fun act w hr hm K hK => by
  subst hoff hm0
  have hown : w.ownsRow 0 e c (.slice (some ⟨g, 0, none⟩) l.length cap) l.length (l.flatMap f) := hm.get hi
  have hown' := hown
  rcases hown.2 with ⟨h0, _⟩ | ⟨g', cap', cur, he, hbg, hg, hnc, hcm, hcs, htake⟩
  · cases h0
  simp only [Value.slice.injEq, Option.some.injEq, Addr.mk.injEq, and_true, true_and] at he
  obtain ⟨rfl, rfl⟩ := he
  have hfit : k * c + c ≤ cur.size := by
    have : (k + 1) * c ≤ cap * c := Nat.mul_le_mul_right _ (by omega)
    rw [hcs]; rw [Nat.add_mul, Nat.one_mul] at this; omega
  have hst := run_storeCells_at P g (k * c) e (f a) 0 cur w hg (by simp [hc]; exact hfit) (List.all_eq_true.1 h1)
  simp only [Nat.add_zero, hc] at hst
  have e' : (execOp act.eval ⟨none, .store t p x, ty, pos, after, none⟩).run P w = .ok .skip (w.setRow g (cur.toList.take (k * c) ++ f a ++ cur.toList.drop (k * c + c)).toArray) := by
    simp [execOp, hr.ev hp, hr.ev hx, Instr.storeAt, Instr.sureAddr, storeVar, hT.size, hv, hst, hc]
  unfold Oper.wp; rw [e']
  refine hK _ _ (h.go _ _ (hr.put_none undef) (hm.turn hi ⟨rfl, rfl, rfl, by simp, fun k _ hk => setRow_other w g k _ (fun e => hk (by subst e; rfl))⟩ ?_ fun k hk => .inl hk))
  have hlen := len_el hc l
  refine ⟨by rw [len_el hc]; simp, .inr ⟨g, cap, _, rfl, hbg, setRow_heap w g cur _ e _ hg, hnc, hcm, by simp [hc]; omega, ?_⟩⟩
  have e1 : (l.set k a).flatMap f = (l.flatMap f).take (k * c) ++ f a ++ (l.flatMap f).drop (k * c + c) := by
    have hl1 : ((l.take k).flatMap f).length = k * c := by rw [len_el hc, List.length_take, Nat.min_eq_left (by omega)]
    have hl2 : ((l.take (k + 1)).flatMap f).length = k * c + c := by rw [len_el hc, List.length_take, Nat.min_eq_left (by omega), Nat.add_mul, Nat.one_mul]
    have t1 : (l.flatMap f).take (k * c) = (l.take k).flatMap f := by
      rw [← hl1]
      conv => lhs; rw [← List.take_append_drop k l, List.flatMap_append]
      simp
    have t2 : (l.flatMap f).drop (k * c + c) = (l.drop (k + 1)).flatMap f := by
      rw [← hl2]
      conv => lhs; rw [← List.take_append_drop (k + 1) l, List.flatMap_append]
      simp
    rw [t1, t2, List.set_eq_take_append_cons_drop, if_pos hk]
    simp
  rw [e1, ← htake]
  have hkl : k * c + c ≤ l.length * c := by
    have : (k + 1) * c ≤ l.length * c := Nat.mul_le_mul_right _ (by omega)
    rw [Nat.add_mul, Nat.one_mul] at this; exact this
  simp only [List.take_take, List.take_append, List.length_append, hc, List.length_take, Array.length_toList]
  rw [Nat.min_eq_left (by omega : k * c ≤ cur.size), Nat.min_eq_right (by omega : k * c ≤ l.length * c), Nat.min_eq_left (by omega : k * c ≤ l.length * c)]
  rw [List.take_of_length_le (by rw [hc]; omega : (f a).length ≤ l.length * c - k * c)]
  congr 1
  rw [List.drop_take]
/-- a fact that what is owned tells -/
theorem TL_know {i : Nat} {o : Own} {φ : Prop} (hi : L[i]? = some o) (hφ : ∀ w, o.holds w → φ) (h : φ → TL P n W ops Q rest fr L) : TL P n W ops Q rest fr L := ⟨fun a w hr hm => (h (hφ w (hm.get hi))).go a w hr hm⟩
theorem T_know {c : Code} {i : Nat} {o : Own} {φ : Prop} (hi : L[i]? = some o) (hφ : ∀ w, o.holds w → φ) (h : φ → T P n W c Q fr L) : T P n W c Q fr L := ⟨fun a w hr hm => (h (hφ w (hm.get hi))).go a w hr hm⟩
end
end Go.Proofs.Ytnicebdkejkieaa.eng
