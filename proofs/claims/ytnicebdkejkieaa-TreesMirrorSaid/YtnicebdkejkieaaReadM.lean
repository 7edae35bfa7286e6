/- Data that came in, opened, with bounds on how much there is of it: by weight (the full form) or by bulk (the second form). -/
import Derived.Test.YtnicebdkejkieaaRead
import Derived.Test.YtnicebdkejkieaaRows
import Derived.SizedLaws
namespace Go.Proofs.Ytnicebdkejkieaa.eng
open Go.RowKit kit mix Go.ChangeShapes Go.WideShapes Go.ChangeAt
/-- a measure that goes down into what a datum has -/
structure Msr (P : Program) (H : Type) where
  ok : TypeId → DataW H → Prop
  lim : TypeId → Nat → Prop
  slim : Nat → Prop
  zero : ∀ e, lim e 0
  slice : ∀ {t e : TypeId} {elems spare : List (DataW H)}, P.underlying t = some (.slice e) → ok t (.slice elems spare) → lim e elems.length ∧ ∀ d ∈ elems, ok e d
  strct : ∀ {t : TypeId} {fs : Array Field} {parts : List (DataW H)}, P.underlying t = some (.struct fs) → ok t (.agg parts) → ∀ (i : Nat) (f : Field) (d : DataW H), fs[i]? = some f → parts[i]? = some d → ok f.type d
  arr : ∀ {t e : TypeId} {m : Nat} {parts : List (DataW H)}, P.underlying t = some (.array m e) → ok t (.agg parts) → ∀ d ∈ parts, ok e d
  str : ∀ {t : TypeId} {b : List UInt8}, ok t (.lit (.string b)) → slim b.length
section
variable {H : Type} {P : Program}
theorem weights_all {e : TypeId} : ∀ (l : List (DataW H)) (d : DataW H), d ∈ l → ∀ n ∈ d.weights P e, n ∈ DataW.weightsAll P e l
  | [], _, h, _, _ => by cases h
  | x :: r, d, h, n, hn => by
    rw [DataW.weightsAll, List.mem_append]
    rcases List.mem_cons.1 h with rfl | h
    · exact .inl hn
    · exact .inr (weights_all r d h n hn)
theorem weights_each : ∀ (ts : List TypeId) (l : List (DataW H)) (i : Nat) (t : TypeId) (d : DataW H), ts[i]? = some t → l[i]? = some d → ∀ n ∈ d.weights P t, n ∈ DataW.weightsEach P ts l
  | [], _, _, _, _, h, _, _, _ => by simp at h
  | _ :: _, [], _, _, _, _, h, _, _ => by simp at h
  | t0 :: ts, d0 :: l, 0, t, d, ht, hd, n, hn => by
    simp only [List.getElem?_cons_zero, Option.some.injEq] at ht hd
    subst ht hd
    rw [DataW.weightsEach, List.mem_append]; exact .inl hn
  | t0 :: ts, d0 :: l, i + 1, t, d, ht, hd, n, hn => by
    rw [DataW.weightsEach, List.mem_append]
    exact .inr (weights_each ts l i t d (by simpa using ht) (by simpa using hd) n hn)
/-- by weight -/
def weightM (P : Program) (H : Type) : Msr P H where
  ok t d := ∀ n ∈ d.weights P t, n ≤ reachBytes
  lim e n := n * P.bytesOf e ≤ reachBytes
  slim n := n ≤ reachBytes
  zero e := by simp
  slice := fun {t e elems spare} ht h => by
    have hw : DataW.weights P t (.slice elems spare) = (elems.length + spare.length) * P.bytesOf e :: (DataW.weightsAll P e elems ++ DataW.weightsAll P e spare) := by rw [DataW.weights, ht]
    rw [hw] at h
    refine ⟨?_, fun d hd n hn => h n ?_⟩
    · have h1 := h _ (List.mem_cons_self)
      exact Nat.le_trans (Nat.mul_le_mul_right _ (by omega)) h1
    · exact List.mem_cons_of_mem _ (List.mem_append_left _ (weights_all elems d hd n hn))
  strct := fun {t fs parts} ht h i f d hf hd n hn => by
    have hw : DataW.weights P t (.agg parts) = DataW.weightsEach P (fs.toList.map (·.type)) parts := by rw [DataW.weights, ht]
    rw [hw] at h
    exact h n (weights_each _ _ i f.type d (by rw [List.getElem?_map, Array.getElem?_toList, hf]; rfl) hd n hn)
  arr := fun {t e m parts} ht h d hd n hn => by
    have hw : DataW.weights P t (.agg parts) = DataW.weightsAll P e parts := by rw [DataW.weights, ht]
    rw [hw] at h
    exact h n (weights_all parts d hd n hn)
  str := fun {t b} h => h _ (by rw [DataW.weights]; exact List.mem_cons_self)
theorem weightM_top {ts : List TypeId} {ds : List (DataW H)} (hsz : (DataW.weightsEach P ts ds).all (· ≤ reachBytes) = true) (j : Nat) {t : TypeId} {d : DataW H} (ht : ts[j]? = some t) (hd : ds[j]? = some d) : (weightM P H).ok t d := fun n hn => by
  have := List.all_eq_true.1 hsz n (weights_each ts ds j t d ht hd n hn)
  simpa using this
theorem bulk_all : ∀ (l : List (DataW H)) (d : DataW H), d ∈ l → Rows.uptoBulk d ≤ Rows.uptoBulkAll l
  | [], _, h => by cases h
  | x :: r, d, h => by
    rw [Rows.uptoBulkAll]
    rcases List.mem_cons.1 h with rfl | h
    · omega
    · have := bulk_all r d h; omega
theorem bulk_one (d : DataW H) : 1 ≤ Rows.uptoBulk d := by
  unfold Rows.uptoBulk
  split <;> omega
theorem bulk_count : ∀ (ds : List (DataW H)), ds.length ≤ Rows.uptoBulkAll ds
  | [] => by simp
  | d :: r => by
    have := bulk_count r
    have := bulk_one d
    rw [Rows.uptoBulkAll, List.length_cons]; omega
/-- by bulk -/
def bulkM (P : Program) (H : Type) : Msr P H where
  ok _ d := Rows.uptoBulk d ≤ 1048576
  lim _ n := n ≤ 1048576
  slim n := n ≤ 1048576
  zero e := by simp
  slice := fun {t e elems spare} _ h => by
    rw [Rows.uptoBulk] at h
    exact ⟨by have := bulk_count elems; omega, fun d hd => by have := bulk_all elems d hd; omega⟩
  strct := fun {t fs parts} _ h i f d _ hd => by
    rw [Rows.uptoBulk] at h
    have := bulk_all parts d (List.mem_of_getElem? hd)
    omega
  arr := fun {t e m parts} _ h d hd => by
    rw [Rows.uptoBulk] at h
    have := bulk_all parts d hd
    omega
  str := fun {t b} h => by rw [Rows.uptoBulk] at h; omega
theorem bulkM_top {ds : List (DataW H)} (hk : Rows.uptoSmall H ds = true) (j : Nat) {t : TypeId} {d : DataW H} (hd : ds[j]? = some d) : (bulkM P H).ok t d := by
  have h := of_decide_eq_true hk
  have := bulk_all ds d (List.mem_of_getElem? hd)
  show Rows.uptoBulk d ≤ 1048576
  omega
end
section
variable {H : Type} {enc0 : TypeId × Value → H} {P : Program} {W : World} {M : Msr P H}
def OpensM (M : Msr P H) (enc0 : TypeId × Value → H) (W : World) (t : TypeId) {α : Type} (is : List Value → α → Prop) : Prop :=
  ∀ fuel cs x, DataW.trod enc0 P W 0 (fun _ => true) true fuel t cs = some x → M.ok t x.1 → ∃ a, is cs a
theorem OpensM.mono {t : TypeId} {α β : Type} {is : List Value → α → Prop} {is' : List Value → β → Prop} (h : OpensM M enc0 W t is) (hi : ∀ cs a, is cs a → ∃ b, is' cs b) : OpensM M enc0 W t is' := fun f cs x hx hm => let ⟨a, ha⟩ := h f cs x hx hm; hi _ _ ha
theorem opensM_of {t : TypeId} {α : Type} {is : List Value → α → Prop} (h : Opens enc0 P W t is) : OpensM M enc0 W t is := fun f cs x hx _ => h f cs x hx
theorem opensM_i64 {t : TypeId} (ht : P.underlying t = some (.int .i64)) : OpensM M enc0 W t (isInt .i64 (-9223372036854775808) 9223372036854775807) := opensM_of (opens_i64 ht)
theorem opensM_bool {t : TypeId} (ht : P.underlying t = some .bool) : OpensM M enc0 W t isBool := opensM_of (opens_bool ht)
theorem opensM_str {t : TypeId} (ht : P.underlying t = some .string) : OpensM M enc0 W t (fun cs s => isStr cs s ∧ M.slim s.length) := fun f cs x h hm => by
  obtain ⟨s, h1, h2, h3⟩ := DataW.trod_string ht h
  refine ⟨s.data.toList, ⟨by rw [h1, str_of], ?_⟩, ?_⟩
  · have e : s.data.toList.length = s.size := Array.length_toList
    unfold maxLen at h3; omega
  · rw [h2] at hm
    exact M.str hm
theorem opensM_slice {t e : TypeId} {c : Nat} (ht : P.underlying t = some (.slice e)) (hc : P.cellsOf e = c) (hc0 : 0 < c) {α : Type} {is : List Value → α → Prop} (hd : OpensM M enc0 W e is) (hl : ∀ cs a, is cs a → cs.length = c) : OpensM M enc0 W t (fun cs l => isSl W is c cs l ∧ M.lim e l.length) := fun fuel cs x h hm => by
  rcases DataW.trod_slice ht h with ⟨rfl, _⟩ | ⟨a, len, cap, elems, rest, n, _, rfl, hx, _, hlc, hmx, hel, hread, _⟩
  · exact ⟨[], ⟨_, rfl, none, 0, rfl, Nat.le_refl _, by decide, fun h => by simp at h⟩, M.zero e⟩
  · rw [hx] at hm
    obtain ⟨hlim, hall⟩ := M.slice ht hm
    have each : ∀ i, i < len → ∃ y : α, ∃ cs, W.cells? 0 (a.add (i * c)) c = some cs ∧ is cs y := fun i hi => by
      have h1 := hread i hi
      rw [hc, List.getElem?_eq_getElem (by omega)] at h1
      cases hcell : W.cells? 0 (a.add (i * c)) c with
      | none => rw [hcell] at h1; simp at h1
      | some cs =>
        rw [hcell] at h1
        obtain ⟨y, hy⟩ := hd n cs _ h1 (hall _ (List.mem_map.2 ⟨_, List.getElem_mem (by omega), rfl⟩))
        exact ⟨y, cs, rfl, hy⟩
    obtain ⟨l, hll, hp⟩ := list_of len each
    subst hll
    refine ⟨l, ⟨_, rfl, some a, cap, rfl, hlc, hmx, fun h0 => ?_⟩, by rw [List.length_map, hel] at hlim; exact hlim⟩
    obtain ⟨cs0, h1, h2⟩ := hp 0 l[0] (List.getElem?_eq_getElem h0)
    have h3 := (cells_some h1).2 0 hc0
    have hlen := (cells_some h1).1
    rw [List.getElem?_eq_getElem (by omega)] at h3
    have hsp := spot_none h3
    have e0 : a.spot = none := by
      rw [Nat.zero_mul] at hsp
      unfold Addr.add at hsp
      simpa using hsp
    obtain ⟨b, off, spot⟩ := a
    simp only at e0
    subst e0
    refine ⟨b, off, rfl, fun i hi => ?_⟩
    obtain ⟨cs, h4, h5⟩ := hp i l[i] (List.getElem?_eq_getElem hi)
    refine ⟨cs, h5, fun j u hj => ?_⟩
    have hjl : j < c := by have := (List.getElem?_eq_some_iff.1 hj).1; rw [(cells_some h4).1] at this; exact this
    have h6 := (cells_some h4).2 j hjl
    rw [addr_add, addr_add] at h6
    rw [h6]; exact hj
/-- a struct's fields -/
theorem fieldM_of {t : TypeId} {fs : Array Field} (ht : P.underlying t = some (.struct fs)) {fuel : Nat} {cs : List Value} {x : DataW H × List MemPlace} (h : DataW.trod enc0 P W 0 (fun _ => true) true fuel t cs = some x) (hm : M.ok t x.1) :
    cs.length = P.cellsOf t ∧ ∀ (i : Nat) (f : Field), fs[i]? = some f → ∀ {α : Type} {is : List Value → α → Prop}, OpensM M enc0 W f.type is → ∃ a, is ((cs.drop f.offset).take (P.cellsOf f.type)) a := by
  obtain ⟨xs, n, _, hx, hl, hlen, hf⟩ := DataW.trod_struct ht h
  refine ⟨hl, fun i f hi α is ho => ?_⟩
  have h1 := hf i f hi
  have hlt : i < xs.length := by rw [hlen]; exact (Array.getElem?_eq_some_iff.1 hi).1
  rw [List.getElem?_eq_getElem hlt] at h1
  rw [hx] at hm
  exact ho n _ _ h1 (M.strct ht hm i f _ hi (by rw [List.getElem?_map, List.getElem?_eq_getElem hlt]; rfl))
/-- an array of elements -/
theorem opensM_array {t e : TypeId} {m c : Nat} (ht : P.underlying t = some (.array m e)) (hc : P.cellsOf e = c) {α : Type} {is : List Value → α → Prop} (hd : OpensM M enc0 W e is) : OpensM M enc0 W t (fun cs l => cs.length = P.cellsOf t ∧ isArr is m c cs l) := fun fuel cs x h hm => by
  obtain ⟨xs, n, _, hx, hl, hlen, hf⟩ := DataW.trod_array ht h
  rw [hx] at hm
  have hall := M.arr ht hm
  have each : ∀ i, i < m → ∃ y : α, is ((cs.drop (i * c)).take c) y := fun i hi => by
    have h1 := hf i hi
    rw [hc, List.getElem?_eq_getElem (by omega)] at h1
    exact hd n _ _ h1 (hall _ (List.mem_map.2 ⟨_, List.getElem_mem (by omega), rfl⟩))
  obtain ⟨l, hll, hp⟩ := list_of m each
  exact ⟨l, hl, hll, fun i hi => hp i _ (List.getElem?_eq_getElem hi)⟩
/-- at the top: a struct by value -/
theorem topM_agg {t : TypeId} {fs : Array Field} (ht : P.underlying t = some (.struct fs)) {base : Nat} {v : Value} {d : DataW H} {ps : List MemPlace} (hv : Value.okWide P W .any base t v) (h : DataW.Trod enc0 P W 0 (fun _ => true) true t v d ps) {α : Type} {is : List Value → α → Prop} (ho : OpensM M enc0 W t is) (hm : M.ok t d) : ∃ cs a, v = .agg cs ∧ is cs.toList a := by
  obtain ⟨cs, fuel, rfl, hf⟩ := top_agg ht hv h
  obtain ⟨a, ha⟩ := ho fuel cs.toList _ hf hm
  exact ⟨cs, a, rfl, ha⟩
/-- at the top: a slice -/
theorem topM_slice {t e : TypeId} {c : Nat} (ht : P.underlying t = some (.slice e)) (hc : P.cellsOf e = c) (hc0 : 0 < c) {α : Type} {is : List Value → α → Prop} (hd : OpensM M enc0 W e is) (hl : ∀ cs a, is cs a → cs.length = c) {base : Nat} {v : Value} {d : DataW H} {ps : List MemPlace} (hv : Value.okWide P W .any base t v) (h : DataW.Trod enc0 P W 0 (fun _ => true) true t v d ps) (hm : M.ok t d) : ∃ l, SlX W is c v l ∧ M.lim e l.length := by
  obtain ⟨a0, len, cap, rfl⟩ := okWide_slice ht hv
  obtain ⟨fuel, hf⟩ := h
  have hf' : DataW.trod enc0 P W 0 (fun _ => true) true fuel t [.slice a0 len cap] = some (d, ps) := hf
  obtain ⟨l, ⟨v', hv', hs⟩, hlim⟩ := opensM_slice ht hc hc0 hd hl _ _ _ hf' hm
  obtain rfl : Value.slice a0 len cap = v' := by simpa using hv'
  exact ⟨l, hs, hlim⟩
end
/-- a slice of elements whose cells are told by a function -/
theorem SlX.flat {α : Type} {W : World} {is : List Value → α → Prop} {f : α → List Value} {c : Nat} {v : Value} {l : List α} (h : SlX W is c v l) (hc : ∀ a, (f a).length = c) (hc0 : 0 < c) (hf : ∀ cs a, is cs a → cs = f a) : Sl W v l.length (l.flatMap f) := by
  obtain ⟨base, cap, h1, h2, h3, h4⟩ := h
  refine ⟨base, cap, h1, h2, h3, fun h0 => ?_⟩
  obtain ⟨b, off, h5, h6⟩ := h4 h0
  refine ⟨b, off, h5, fun j u hj => ?_⟩
  have hjl := (List.getElem?_eq_some_iff.1 hj).1
  rw [flatMap_len hc] at hjl
  have hi : j / c < l.length := (Nat.div_lt_iff_lt_mul hc0).2 hjl
  have hmod := Nat.mod_lt j hc0
  have hdm : j / c * c + j % c = j := by rw [Nat.mul_comm]; exact Nat.div_add_mod j c
  obtain ⟨cs, h7, h8⟩ := h6 (j / c) hi
  rw [hf _ _ h7] at h8
  have h9 := flatMap_get hc l (j / c) (j % c) l[j / c] (List.getElem?_eq_getElem hi) hmod
  rw [hdm] at h9
  rw [h9] at hj
  have := h8 (j % c) u hj
  rw [Nat.add_assoc, hdm] at this
  exact this
end Go.Proofs.Ytnicebdkejkieaa.eng
