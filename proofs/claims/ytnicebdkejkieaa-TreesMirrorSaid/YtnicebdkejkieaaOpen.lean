/- Arguments opened: a slice that came in, as a list. -/
import Derived.Test.YtnicebdkejkieaaKit
import Derived.Test.YtnicebdkejkieaaLaw
namespace Go.Proofs.Ytnicebdkejkieaa.kit
open Go.ChangeShapes Go.WideShapes Go.ChangeAt Go.RowKit

/-- a slice of n elements whose cells are xs (read alone) -/
def Sl (w : World) (v : Value) (n : Nat) (xs : List Value) : Prop :=
  ∃ base cap, v = .slice base n cap ∧ n ≤ cap ∧ cap ≤ maxLen ∧ (0 < n → ∃ b off, base = some ⟨b, off, none⟩ ∧ Rd w b off xs)
theorem Sl.gr {w w' : World} {v : Value} {n : Nat} {xs : List Value} (h : Sl w v n xs) (hg : Below w.heap.size w w') : Sl w' v n xs :=
  let ⟨base, cap, h1, h2, h3, h4⟩ := h
  ⟨base, cap, h1, h2, h3, fun hn => let ⟨b, off, h5, h6⟩ := h4 hn; ⟨b, off, h5, h6.gr hg⟩⟩
theorem Sl.of_own {w : World} {base : Nat} {e : TypeId} {size : Nat} {v : Value} {n : Nat} {xs : List Value} (h : w.ownsRow base e size v n xs) : Sl w v n xs := by
  rcases h.2 with ⟨rfl, rfl⟩ | ⟨g, cap, cur, rfl, hb, hg, hn, hm, r⟩
  · exact ⟨none, 0, rfl, Nat.le_refl _, by decide, fun h => by omega⟩
  · exact ⟨_, cap, rfl, hn, hm, fun _ => ⟨g, 0, rfl, (rd_own h).rd⟩⟩

/-- a slice over a block that is known whole -/
theorem sl_block {w : World} {g : Nat} {cs : Array Value} {T : TypeId} {fr : Nat × Nat} {n : Nat} {xs : List Value} (hb : w.heap[g]? = some (.cells cs T fr)) (hx : cs.toList = xs) (hn : n ≤ maxLen) : Sl w (.slice (some ⟨g, 0, none⟩) n n) n xs := by
  subst hx
  refine ⟨_, n, rfl, Nat.le_refl _, hn, fun _ => ⟨g, 0, rfl, fun j u hj => ?_⟩⟩
  rw [Nat.zero_add, cell_of_row w g j cs T fr hb]
  simpa using hj

theorem mapM_some {α β : Type} {f : α → Option β} : ∀ {l : List α} {r : List β}, l.mapM f = some r → r.length = l.length ∧ ∀ (i : Nat) (a : α), l[i]? = some a → ∃ b, f a = some b ∧ r[i]? = some b
  | [], r, h => by
    simp at h; subst h; exact ⟨rfl, fun i a h => by simp at h⟩
  | x :: l, r, h => by
    rw [List.mapM_cons] at h
    cases hx : f x with
    | none => rw [hx] at h; simp at h
    | some y =>
      rw [hx] at h
      cases hr : l.mapM f with
      | none => rw [hr] at h; simp at h
      | some r' =>
        rw [hr] at h
        simp at h
        subst h
        obtain ⟨h1, h2⟩ := mapM_some hr
        refine ⟨by simp [h1], fun i a hi => ?_⟩
        cases i with
        | zero => simp at hi; subst hi; exact ⟨y, hx, rfl⟩
        | succ i => simp at hi; simpa using h2 i a hi

theorem cells_some {w : World} {a : Addr} {n : Nat} {cs : List Value} (h : w.cells? 0 a n = some cs) : cs.length = n ∧ ∀ j, j < n → w.cell? (a.add j) = cs[j]? := by
  unfold World.cells? at h
  rw [if_pos (Nat.zero_le _)] at h
  obtain ⟨h1, h2⟩ := mapM_some h
  rw [List.length_range] at h1
  refine ⟨h1, fun j hj => ?_⟩
  obtain ⟨b, hb, hc⟩ := h2 j j (by simp [hj])
  rw [hb, hc]

theorem addr_add (b off j : Nat) : (⟨b, off, none⟩ : Addr).add j = ⟨b, off + j, none⟩ := by unfold Addr.add; split <;> simp_all
theorem spot_none {w : World} {a : Addr} {v : Value} (h : w.cell? a = some v) : a.spot = none := by
  unfold World.cell? at h
  split at h
  · cases hs : a.spot with
    | none => rfl
    | some n => rw [hs] at h; simp at h
  · cases h
theorem flatMap_get {α : Type} {enc : α → List Value} {c : Nat} (hlen : ∀ a, (enc a).length = c) : ∀ (l : List α) (i j : Nat) (a : α), l[i]? = some a → j < c → (l.flatMap enc)[i * c + j]? = (enc a)[j]?
  | [], i, j, a, h, _ => by simp at h
  | x :: l, 0, j, a, h, hj => by
    simp at h; subst h
    rw [List.flatMap_cons, List.getElem?_append_left (by rw [hlen]; omega)]
    simp
  | x :: l, i + 1, j, a, h, hj => by
    have ih := flatMap_get hlen l i j a (by simpa using h) hj
    rw [List.flatMap_cons, List.getElem?_append_right (by rw [hlen, Nat.add_mul]; omega), hlen, show (i + 1) * c + j - c = i * c + j by rw [Nat.add_mul]; omega]
    exact ih
theorem flatMap_len {α : Type} {enc : α → List Value} {c : Nat} (hlen : ∀ a, (enc a).length = c) (l : List α) : (l.flatMap enc).length = l.length * c := by
  induction l with
  | nil => simp
  | cons x l ih => rw [List.flatMap_cons, List.length_append, hlen, ih, List.length_cons, Nat.add_mul]; omega

section
variable {H : Type} {enc0 : TypeId × Value → H} {P : Program} {W : World}
theorem list_of {α : Type} {p : Nat → α → Prop} : ∀ (n : Nat), (∀ i, i < n → ∃ a, p i a) → ∃ l : List α, l.length = n ∧ ∀ (i : Nat) (a : α), l[i]? = some a → p i a
  | 0, _ => ⟨[], rfl, fun i a h => by simp at h⟩
  | n + 1, h => by
    obtain ⟨l, hl, hp⟩ := list_of n fun i hi => h i (by omega)
    obtain ⟨a, ha⟩ := h n (by omega)
    refine ⟨l ++ [a], by simp [hl], fun i b hb => ?_⟩
    by_cases hi : i < n
    · rw [List.getElem?_append_left (by omega)] at hb; exact hp i b hb
    · have hlt := (List.getElem?_eq_some_iff.1 hb).1
      simp at hlt
      obtain rfl : i = n := by omega
      rw [List.getElem?_append_right (by omega)] at hb
      rw [hl] at hb; simp at hb; subst hb; exact ha
/-- a slice that came in, its elements flat (no memory behind them): as a list of what they are -/
theorem open_flat {t e : TypeId} (ht : P.underlying t = some (.slice e)) {c : Nat} (hc : P.cellsOf e = c) (hc0 : 0 < c) {α : Type} (enc : α → List Value) (hlen : ∀ a, (enc a).length = c) (ok : α → Prop)
    (dec : ∀ (fuel : Nat) (cs : List Value) x, DataW.trod enc0 P W 0 (fun _ => true) true fuel e cs = some x → ∃ a, cs = enc a ∧ ok a)
    {base : Nat} {v : Value} {d : DataW H} {ps : List MemPlace} (hv : Value.okWide P W .any base t v) (h : DataW.Trod enc0 P W 0 (fun _ => true) true t v d ps) :
    ∃ l : List α, Sl W v l.length (l.flatMap enc) ∧ (∀ a ∈ l, ok a) ∧ ((d = .nil ∧ l = []) ∨ ∃ elems spare, d = .slice elems spare ∧ elems.length = l.length) := by
  obtain ⟨a0, len, cap, rfl⟩ := okWide_slice ht hv
  obtain ⟨fuel, hf⟩ := h
  have hf' : DataW.trod enc0 P W 0 (fun _ => true) true fuel t [.slice a0 len cap] = some (d, ps) := hf
  rcases DataW.trod_slice ht hf' with ⟨hcs, hx⟩ | ⟨a, len', cap', elems, rest, n, _, hcs, hx, _, hl, hm, hel, hread, _⟩
  · simp only [List.cons.injEq, Value.slice.injEq, and_true] at hcs
    obtain ⟨rfl, rfl, rfl⟩ := hcs
    simp only [Prod.mk.injEq] at hx
    exact ⟨[], ⟨none, 0, rfl, Nat.le_refl _, by decide, fun h => by simp at h⟩, by simp, .inl ⟨hx.1, rfl⟩⟩
  · simp only [List.cons.injEq, Value.slice.injEq, and_true] at hcs
    obtain ⟨rfl, rfl, rfl⟩ := hcs
    simp only [Prod.mk.injEq] at hx
    have each : ∀ i, i < len → ∃ b : α, (W.cells? 0 (a.add (i * c)) c = some (enc b)) ∧ ok b := fun i hi => by
      have h1 := hread i hi
      rw [hc] at h1
      rw [List.getElem?_eq_getElem (by omega)] at h1
      cases hcell : W.cells? 0 (a.add (i * c)) c with
      | none => rw [hcell] at h1; simp at h1
      | some cs =>
        rw [hcell] at h1
        obtain ⟨b, rfl, hok⟩ := dec n cs _ h1
        exact ⟨b, rfl, hok⟩
    obtain ⟨l, hll, hp⟩ := list_of len each
    refine ⟨l, ⟨some a, cap, by rw [hll], by omega, hm, fun h0 => ?_⟩, fun b hb => ?_, .inr ⟨_, _, hx.1, by simp [hel, hll]⟩⟩
    · have h1 := hp 0 l[0] (List.getElem?_eq_getElem h0)
      have h2 := (cells_some h1.1).2 0 hc0
      rw [List.getElem?_eq_getElem (by rw [hlen]; exact hc0)] at h2
      have hsp := spot_none h2
      have e0 : a.spot = none := by
        rw [Nat.zero_mul] at hsp
        unfold Addr.add at hsp
        simpa using hsp
      obtain ⟨b, off, spot⟩ := a
      simp only at e0
      subst e0
      refine ⟨b, off, rfl, fun j u hj => ?_⟩
      have hjl := (List.getElem?_eq_some_iff.1 hj).1
      rw [flatMap_len hlen] at hjl
      have hi : j / c < l.length := (Nat.div_lt_iff_lt_mul hc0).2 hjl
      have hmod := Nat.mod_lt j hc0
      have hdm : j / c * c + j % c = j := by rw [Nat.mul_comm]; exact Nat.div_add_mod j c
      have h3 := hp (j / c) l[j / c] (List.getElem?_eq_getElem hi)
      have h4 := (cells_some h3.1).2 (j % c) hmod
      rw [addr_add, addr_add, Nat.add_assoc, hdm] at h4
      rw [h4, ← flatMap_get hlen l (j / c) (j % c) l[j / c] (List.getElem?_eq_getElem hi) hmod, hdm]
      exact hj
    · obtain ⟨i, hi, rfl⟩ := List.mem_iff_getElem.1 hb
      exact (hp i _ (List.getElem?_eq_getElem hi)).2
/-- its size -/
theorem size_flat {ts : List TypeId} {ds : List (DataW H)} {j : Nat} {t e : TypeId} {d : DataW H} {n : Nat} (hsz : (DataW.weightsEach P ts ds).all (· ≤ reachBytes) = true) (hj : ts[j]? = some t) (hd : ds[j]? = some d)
    (hu : P.underlying t = some (.slice e)) {B : Nat} (hB : P.bytesOf e = B) (h : (d = .nil ∧ n = 0) ∨ ∃ elems spare, d = .slice elems spare ∧ elems.length = n) : n * B ≤ 140737488351232 := by
  rcases h with ⟨_, rfl⟩ | ⟨elems, spare, rfl, rfl⟩
  · omega
  · have h1 := sized_slice hsz hj hd hu
    rw [hB] at h1
    have : elems.length * B ≤ (elems.length + spare.length) * B := Nat.mul_le_mul_right _ (by omega)
    have e : reachBytes = 140737488351232 := rfl
    omega
end
/-- one cell an element -/
def boolC (b : Bool) : List Value := [.bool b]
def intC (n : Int) : List Value := [.int .i64 n]
def strC (s : ByteArray) : List Value := [.string s]
theorem flat1 {α : Type} {f : α → Value} (l : List α) : l.flatMap (fun a => [f a]) = l.map f := by
  induction l with
  | nil => rfl
  | cons x l ih => simp [List.flatMap_cons, ih]
def okI64 (n : Int) : Prop := -9223372036854775808 ≤ n ∧ n ≤ 9223372036854775807
theorem okI64_of {n : Int} (h : (Lit.int .i64 n).wf = true) : okI64 n := by simpa [okI64, Lit.wf, IntKind.min, IntKind.max, IntKind.signed, IntKind.bits] using h
theorem open_bools {H : Type} {enc0 : TypeId × Value → H} {P : Program} {W : World} {t e : TypeId} (ht : P.underlying t = some (.slice e)) (he : P.underlying e = some .bool) (hc : P.cellsOf e = 1) (hB : P.bytesOf e = 1)
    {base : Nat} {v : Value} {d : DataW H} {ps : List MemPlace} (hv : Value.okWide P W .any base t v) (h : DataW.Trod enc0 P W 0 (fun _ => true) true t v d ps) {ts : List TypeId} {ds : List (DataW H)} (hsz : (DataW.weightsEach P ts ds).all (· ≤ reachBytes) = true) (j : Nat) (hj : ts[j]? = some t) (hd : ds[j]? = some d) :
    ∃ l : List Bool, Sl W v l.length (l.map .bool) ∧ l.length ≤ 140737488351232 := by
  obtain ⟨l, h1, _, h3⟩ := open_flat ht hc (by decide) boolC (fun _ => rfl) (fun _ => True) (fun n cs x hx => let ⟨b, h, _⟩ := DataW.trod_bool he hx; ⟨b, h, trivial⟩) hv h
  have h4 := size_flat (n := l.length) hsz hj hd ht hB (by rcases h3 with ⟨h, rfl⟩ | h; exact .inl ⟨h, rfl⟩; exact .inr h)
  exact ⟨l, by rw [← flat1]; exact h1, by omega⟩
theorem open_ints {H : Type} {enc0 : TypeId × Value → H} {P : Program} {W : World} {t e : TypeId} (ht : P.underlying t = some (.slice e)) (he : P.underlying e = some (.int .i64)) (hc : P.cellsOf e = 1) (hB : P.bytesOf e = 8)
    {base : Nat} {v : Value} {d : DataW H} {ps : List MemPlace} (hv : Value.okWide P W .any base t v) (h : DataW.Trod enc0 P W 0 (fun _ => true) true t v d ps) {ts : List TypeId} {ds : List (DataW H)} (hsz : (DataW.weightsEach P ts ds).all (· ≤ reachBytes) = true) (j : Nat) (hj : ts[j]? = some t) (hd : ds[j]? = some d) :
    ∃ l : List Int, Sl W v l.length (l.map (.int .i64)) ∧ (∀ n ∈ l, okI64 n) ∧ l.length * 8 ≤ 140737488351232 := by
  obtain ⟨l, h1, h2, h3⟩ := open_flat ht hc (by decide) intC (fun _ => rfl) okI64 (fun n cs x hx => let ⟨b, h, _, hw⟩ := DataW.trod_int he hx; ⟨b, h, okI64_of hw⟩) hv h
  have h4 := size_flat (n := l.length) hsz hj hd ht hB (by rcases h3 with ⟨h, rfl⟩ | h; exact .inl ⟨h, rfl⟩; exact .inr h)
  exact ⟨l, by rw [← flat1]; exact h1, h2, h4⟩
theorem open_strs {H : Type} {enc0 : TypeId × Value → H} {P : Program} {W : World} {t e : TypeId} (ht : P.underlying t = some (.slice e)) (he : P.underlying e = some .string) (hc : P.cellsOf e = 1) (hB : P.bytesOf e = 16)
    {base : Nat} {v : Value} {d : DataW H} {ps : List MemPlace} (hv : Value.okWide P W .any base t v) (h : DataW.Trod enc0 P W 0 (fun _ => true) true t v d ps) {ts : List TypeId} {ds : List (DataW H)} (hsz : (DataW.weightsEach P ts ds).all (· ≤ reachBytes) = true) (j : Nat) (hj : ts[j]? = some t) (hd : ds[j]? = some d) :
    ∃ l : List ByteArray, Sl W v l.length (l.map .string) ∧ (∀ s ∈ l, s.size ≤ maxLen) ∧ l.length * 16 ≤ 140737488351232 := by
  obtain ⟨l, h1, h2, h3⟩ := open_flat ht hc (by decide) strC (fun _ => rfl) (fun s => s.size ≤ maxLen) (fun n cs x hx => let ⟨b, h, _, hw⟩ := DataW.trod_string he hx; ⟨b, h, hw⟩) hv h
  have h4 := size_flat (n := l.length) hsz hj hd ht hB (by rcases h3 with ⟨h, rfl⟩ | h; exact .inl ⟨h, rfl⟩; exact .inr h)
  exact ⟨l, by rw [← flat1]; exact h1, h2, h4⟩
end Go.Proofs.Ytnicebdkejkieaa.kit
