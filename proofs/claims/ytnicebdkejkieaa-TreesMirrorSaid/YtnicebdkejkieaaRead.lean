/- Data that came in, opened: structs, arrays, slices of whatever can be opened. -/
import Derived.Test.YtnicebdkejkieaaOpenE
namespace Go.Proofs.Ytnicebdkejkieaa.eng
open Go.RowKit kit mix Go.ChangeShapes Go.WideShapes Go.ChangeAt
section
variable {H : Type} {enc0 : TypeId × Value → H} {P : Program} {W : World}
/-- a slice of elements of c cells each, of which 'is' says how they read -/
def SlX {α : Type} (W : World) (is : List Value → α → Prop) (c : Nat) (v : Value) (l : List α) : Prop :=
  ∃ base cap, v = .slice base l.length cap ∧ l.length ≤ cap ∧ cap ≤ maxLen ∧ (0 < l.length → ∃ b off, base = some ⟨b, off, none⟩ ∧ ∀ i (h : i < l.length), ∃ cs, is cs l[i] ∧ Rd W b (off + i * c) cs)
/-- what can be opened reads so -/
def Opens (enc0 : TypeId × Value → H) (P : Program) (W : World) (t : TypeId) {α : Type} (is : List Value → α → Prop) : Prop :=
  ∀ fuel cs x, DataW.trod enc0 P W 0 (fun _ => true) true fuel t cs = some x → ∃ a, is cs a
theorem Opens.mono {t : TypeId} {α : Type} {is is' : List Value → α → Prop} (h : Opens enc0 P W t is) (hi : ∀ cs a, is cs a → is' cs a) : Opens enc0 P W t is' := fun f cs x hx => let ⟨a, ha⟩ := h f cs x hx; ⟨a, hi _ _ ha⟩
def isInt (k : IntKind) (lo hi : Int) (cs : List Value) (n : Int) : Prop := cs = [.int k n] ∧ lo ≤ n ∧ n ≤ hi
def isStr (cs : List Value) (s : List UInt8) : Prop := cs = [str s] ∧ s.length ≤ 9223372036854775807
def isBool (cs : List Value) (b : Bool) : Prop := cs = [.bool b]
theorem opens_int {t : TypeId} {k : IntKind} (ht : P.underlying t = some (.int k)) : Opens enc0 P W t (isInt k k.min k.max) := fun f cs x h => by
  obtain ⟨n, h1, _, h3⟩ := DataW.trod_int ht h
  simp only [Lit.wf, Bool.and_eq_true, decide_eq_true_eq] at h3
  exact ⟨n, h1, h3.1, h3.2⟩
theorem opens_i64 {t : TypeId} (ht : P.underlying t = some (.int .i64)) : Opens enc0 P W t (isInt .i64 (-9223372036854775808) 9223372036854775807) := (opens_int ht).mono fun cs n h => ⟨h.1, by simpa [IntKind.min, IntKind.signed, IntKind.bits] using h.2.1, by simpa [IntKind.max, IntKind.signed, IntKind.bits] using h.2.2⟩
theorem opens_i16 {t : TypeId} (ht : P.underlying t = some (.int .i16)) : Opens enc0 P W t (isInt .i16 (-32768) 32767) := (opens_int ht).mono fun cs n h => ⟨h.1, by simpa [IntKind.min, IntKind.signed, IntKind.bits] using h.2.1, by simpa [IntKind.max, IntKind.signed, IntKind.bits] using h.2.2⟩
theorem opens_u64 {t : TypeId} (ht : P.underlying t = some (.int .u64)) : Opens enc0 P W t (isInt .u64 0 18446744073709551615) := (opens_int ht).mono fun cs n h => ⟨h.1, by simpa [IntKind.min, IntKind.signed, IntKind.bits] using h.2.1, by simpa [IntKind.max, IntKind.signed, IntKind.bits] using h.2.2⟩
theorem opens_u8 {t : TypeId} (ht : P.underlying t = some (.int .u8)) : Opens enc0 P W t (isInt .u8 0 255) := (opens_int ht).mono fun cs n h => ⟨h.1, by simpa [IntKind.min, IntKind.signed, IntKind.bits] using h.2.1, by simpa [IntKind.max, IntKind.signed, IntKind.bits] using h.2.2⟩
theorem opens_str {t : TypeId} (ht : P.underlying t = some .string) : Opens enc0 P W t isStr := fun f cs x h => by
  obtain ⟨s, h1, _, h3⟩ := DataW.trod_string ht h
  refine ⟨s.data.toList, by rw [h1, str_of], ?_⟩
  have e : s.data.toList.length = s.size := Array.length_toList
  unfold maxLen at h3; omega
theorem opens_bool {t : TypeId} (ht : P.underlying t = some .bool) : Opens enc0 P W t isBool := fun f cs x h => by
  obtain ⟨b, h1, _⟩ := DataW.trod_bool ht h
  exact ⟨b, h1⟩
def isSl {α : Type} (W : World) (is : List Value → α → Prop) (c : Nat) (cs : List Value) (l : List α) : Prop := ∃ v, cs = [v] ∧ SlX W is c v l
theorem opens_slice {t e : TypeId} {c : Nat} (ht : P.underlying t = some (.slice e)) (hc : P.cellsOf e = c) (hc0 : 0 < c) {α : Type} {is : List Value → α → Prop} (hd : Opens enc0 P W e is) (hl : ∀ cs a, is cs a → cs.length = c) : Opens enc0 P W t (isSl W is c) := fun fuel cs x h => by
  rcases DataW.trod_slice ht h with ⟨rfl, _⟩ | ⟨a, len, cap, elems, rest, n, _, rfl, _, _, hlc, hm, hel, hread, _⟩
  · exact ⟨[], _, rfl, none, 0, rfl, Nat.le_refl _, by decide, fun h => by simp at h⟩
  · have each : ∀ i, i < len → ∃ y : α, ∃ cs, W.cells? 0 (a.add (i * c)) c = some cs ∧ is cs y := fun i hi => by
      have h1 := hread i hi
      rw [hc, List.getElem?_eq_getElem (by omega)] at h1
      cases hcell : W.cells? 0 (a.add (i * c)) c with
      | none => rw [hcell] at h1; simp at h1
      | some cs =>
        rw [hcell] at h1
        obtain ⟨y, hy⟩ := hd n cs _ h1
        exact ⟨y, cs, rfl, hy⟩
    obtain ⟨l, hll, hp⟩ := list_of len each
    subst hll
    refine ⟨l, _, rfl, some a, cap, rfl, hlc, hm, fun h0 => ?_⟩
    obtain ⟨cs0, h1, h2⟩ := hp 0 l[0] (List.getElem?_eq_getElem h0)
    have h3 := (cells_some h1).2 0 hc0
    have hlen := (cells_some h1).1
    rw [List.getElem?_eq_getElem (by omega)] at h3
    have hsp := spot_none h3
    have e0 : a.spot = none := by
      rw [Nat.zero_mul] at hsp
      unfold Addr.add at hsp
      simpa using hsp
    obtain ⟨b, off, spot⟩ := a
    simp only at e0
    subst e0
    refine ⟨b, off, rfl, fun i hi => ?_⟩
    obtain ⟨cs, h4, h5⟩ := hp i l[i] (List.getElem?_eq_getElem hi)
    refine ⟨cs, h5, fun j u hj => ?_⟩
    have hjl : j < c := by have := (List.getElem?_eq_some_iff.1 hj).1; rw [(cells_some h4).1] at this; exact this
    have h6 := (cells_some h4).2 j hjl
    rw [addr_add, addr_add] at h6
    rw [h6]; exact hj
/-- an array: its elements one behind the other -/
def isArr {α : Type} (is : List Value → α → Prop) (m c : Nat) (cs : List Value) (l : List α) : Prop := l.length = m ∧ ∀ i (h : i < l.length), is ((cs.drop (i * c)).take c) l[i]
theorem opens_array {t e : TypeId} {m c : Nat} (ht : P.underlying t = some (.array m e)) (hc : P.cellsOf e = c) {α : Type} {is : List Value → α → Prop} (hd : Opens enc0 P W e is) : Opens enc0 P W t (fun cs l => cs.length = P.cellsOf t ∧ isArr is m c cs l) := fun fuel cs x h => by
  obtain ⟨xs, n, _, _, hl, hlen, hf⟩ := DataW.trod_array ht h
  have each : ∀ i, i < m → ∃ y : α, is ((cs.drop (i * c)).take c) y := fun i hi => by
    have h1 := hf i hi
    rw [hc, List.getElem?_eq_getElem (by omega)] at h1
    exact hd n _ _ h1
  obtain ⟨l, hll, hp⟩ := list_of m each
  exact ⟨l, hl, hll, fun i hi => hp i _ (List.getElem?_eq_getElem hi)⟩
/-- an array of numbers -/
def isInts (k : IntKind) (lo hi : Int) (m : Nat) (cs : List Value) (l : List Int) : Prop := l.length = m ∧ cs = l.map (.int k) ∧ ∀ x ∈ l, lo ≤ x ∧ x ≤ hi
theorem ints_of_arr {k : IntKind} {lo hi : Int} {m : Nat} {cs : List Value} {l : List Int} (hl : cs.length = m) (h : isArr (isInt k lo hi) m 1 cs l) : isInts k lo hi m cs l := by
  obtain ⟨h1, h2⟩ := h
  refine ⟨h1, ?_, fun x hx => ?_⟩
  · apply List.ext_getElem?
    intro i
    by_cases hi : i < l.length
    · have h3 := (h2 i hi).1
      rw [Nat.mul_one] at h3
      have hic : i < cs.length := by omega
      rw [List.drop_eq_getElem_cons hic, List.take_succ_cons, List.take_zero] at h3
      injection h3 with h3 _
      rw [List.getElem?_eq_getElem hic, List.getElem?_map, List.getElem?_eq_getElem hi, h3]; rfl
    · rw [List.getElem?_eq_none (by omega), List.getElem?_eq_none (by simp; omega)]
  · obtain ⟨i, hi, rfl⟩ := List.mem_iff_getElem.1 hx
    exact (h2 i hi).2
/-- a struct's fields -/
theorem field_of {t : TypeId} {fs : Array Field} (ht : P.underlying t = some (.struct fs)) {fuel : Nat} {cs : List Value} {x : DataW H × List MemPlace} (h : DataW.trod enc0 P W 0 (fun _ => true) true fuel t cs = some x) :
    cs.length = P.cellsOf t ∧ ∀ (i : Nat) (f : Field), fs[i]? = some f → ∀ {α : Type} {is : List Value → α → Prop}, Opens enc0 P W f.type is → ∃ a, is ((cs.drop f.offset).take (P.cellsOf f.type)) a := by
  obtain ⟨xs, n, _, _, hl, hlen, hf⟩ := DataW.trod_struct ht h
  refine ⟨hl, fun i f hi α is ho => ?_⟩
  have h1 := hf i f hi
  have : i < xs.length := by rw [hlen]; exact (Array.getElem?_eq_some_iff.1 hi).1
  rw [List.getElem?_eq_getElem this] at h1
  exact ho n _ _ h1
/-- at the top -/
theorem top_agg {t : TypeId} {fs : Array Field} (ht : P.underlying t = some (.struct fs)) {base : Nat} {v : Value} {d : DataW H} {ps : List MemPlace} (hv : Value.okWide P W .any base t v) (h : DataW.Trod enc0 P W 0 (fun _ => true) true t v d ps) : ∃ cs fuel, v = .agg cs ∧ DataW.trod enc0 P W 0 (fun _ => true) true fuel t cs.toList = some (d, ps) := by
  simp only [Value.okWide, ht] at hv
  obtain ⟨cs, rfl, _, _⟩ := hv
  obtain ⟨fuel, hf⟩ := h
  exact ⟨cs, fuel, rfl, hf⟩
theorem top_arr {t e : TypeId} {m : Nat} (ht : P.underlying t = some (.array m e)) {base : Nat} {v : Value} {d : DataW H} {ps : List MemPlace} (hv : Value.okWide P W .any base t v) (h : DataW.Trod enc0 P W 0 (fun _ => true) true t v d ps) : ∃ cs fuel, v = .agg cs ∧ DataW.trod enc0 P W 0 (fun _ => true) true fuel t cs.toList = some (d, ps) := by
  simp only [Value.okWide, ht] at hv
  obtain ⟨cs, rfl, _, _⟩ := hv
  obtain ⟨fuel, hf⟩ := h
  exact ⟨cs, fuel, rfl, hf⟩
theorem top_slice {t e : TypeId} {c : Nat} (ht : P.underlying t = some (.slice e)) (hc : P.cellsOf e = c) (hc0 : 0 < c) {α : Type} {is : List Value → α → Prop} (hd : Opens enc0 P W e is) (hl : ∀ cs a, is cs a → cs.length = c) {base : Nat} {v : Value} {d : DataW H} {ps : List MemPlace} (hv : Value.okWide P W .any base t v) (h : DataW.Trod enc0 P W 0 (fun _ => true) true t v d ps) : ∃ l, SlX W is c v l := by
  obtain ⟨a0, len, cap, rfl⟩ := okWide_slice ht hv
  obtain ⟨fuel, hf⟩ := h
  have hf' : DataW.trod enc0 P W 0 (fun _ => true) true fuel t [.slice a0 len cap] = some (d, ps) := hf
  obtain ⟨l, v', hv', hs⟩ := opens_slice ht hc hc0 hd hl _ _ _ hf'
  obtain rfl : Value.slice a0 len cap = v' := by simpa using hv'
  exact ⟨l, hs⟩
end
/-- a slice of one-cell elements -/
theorem SlX.sl {α : Type} {W : World} {is : List Value → α → Prop} {f : α → Value} {v : Value} {l : List α} (h : SlX W is 1 v l) (hf : ∀ cs a, is cs a → cs = [f a]) : Sl W v l.length (l.map f) := by
  obtain ⟨base, cap, h1, h2, h3, h4⟩ := h
  refine ⟨base, cap, h1, h2, h3, fun h0 => ?_⟩
  obtain ⟨b, off, h5, h6⟩ := h4 h0
  refine ⟨b, off, h5, fun j u hj => ?_⟩
  have hjl : j < l.length := by simpa using (List.getElem?_eq_some_iff.1 hj).1
  obtain ⟨cs, h7, h8⟩ := h6 j hjl
  have := h8 0 (f l[j]) (by rw [hf _ _ h7]; rfl)
  simp only [Nat.mul_one, Nat.add_zero] at this
  rw [this, ← hj]; simp [hjl]
/-- seen from a later world -/
theorem SlX.up {α : Type} {W w : World} {L : List Own} {is : List Value → α → Prop} {c : Nat} {v : Value} {l : List α} (h : SlX W is c v l) (hm : Mem W L w) : SlX w is c v l := by
  obtain ⟨base, cap, h1, h2, h3, h4⟩ := h
  exact ⟨base, cap, h1, h2, h3, fun h0 => let ⟨b, off, h5, h6⟩ := h4 h0; ⟨b, off, h5, fun i hi => let ⟨cs, h7, h8⟩ := h6 i hi; ⟨cs, h7, fun j u hj => hm.cell (h8 j u hj)⟩⟩⟩
end Go.Proofs.Ytnicebdkejkieaa.eng
