/- Slices of elements of some cells each, whatever they are. -/
import Derived.Test.YtnooleopmlijeaaRead
import Derived.Test.YtnooleopmlijeaaOpx
import Derived.Test.YtnooleopmlijeaaMixV
namespace Go.Proofs.Ytnooleopmlijeaa.eng
open Go.RowKit kit mix
section
variable {α : Type} {f : α → List Value} {c : Nat}
theorem get_el (hc : ∀ a, (f a).length = c) : ∀ (l : List α) (k j : Nat) (h : k < l.length), j < c → (l.flatMap f)[k * c + j]? = (f l[k])[j]?
  | a :: r, 0, j, h, hj => by
    rw [List.flatMap_cons, List.getElem?_append_left (by rw [hc]; omega)]
    simp
  | a :: r, k + 1, j, h, hj => by
    have ih := get_el hc r k j (by simpa using h) hj
    rw [List.flatMap_cons, List.getElem?_append_right (by rw [hc, Nat.succ_mul]; omega), hc]
    simp only [List.getElem_cons_succ]
    rw [← ih, Nat.succ_mul]
    congr 1
    omega
theorem len_el (hc : ∀ a, (f a).length = c) : ∀ (l : List α), (l.flatMap f).length = l.length * c
  | [] => by simp
  | a :: r => by rw [List.flatMap_cons, List.length_append, hc, len_el hc r, List.length_cons, Nat.succ_mul, Nat.add_comm]
theorem at_el (hc : ∀ a, (f a).length = c) {W : World} {L : List Own} {b off : Nat} {l : List α} (h : Rd W b off (l.flatMap f)) {k : Nat} (hk : k < l.length) (j : Nat) (u : Value) (hu : (f l[k])[j]? = some u) : At W L ⟨b, off + k * c + j, none⟩ u := by
  have hj : j < c := by rw [← hc l[k]]; exact (List.getElem?_eq_some_iff.1 hu).1
  rw [Nat.add_assoc]
  exact at_rd h (by rw [get_el hc l k j hk hj]; exact hu)
/-- the same of cells that are known as long as L is -/
theorem at_elL (hc : ∀ a, (f a).length = c) {W : Base} {L : List Own} {b off : Nat} {l : List α} (h : ∀ j u, (l.flatMap f)[j]? = some u → At W L ⟨b, off + j, none⟩ u) {k : Nat} (hk : k < l.length) (j : Nat) (u : Value) (hu : (f l[k])[j]? = some u) : At W L ⟨b, off + k * c + j, none⟩ u := by
  have hj : j < c := by rw [← hc l[k]]; exact (List.getElem?_eq_some_iff.1 hu).1
  rw [Nat.add_assoc]
  exact h _ _ (by rw [get_el hc l k j hk hj]; exact hu)
theorem at_rowel (hc : ∀ a, (f a).length = c) {W : Base} {L : List Own} {i g m cap n size : Nat} {e : TypeId} {l : List α} (hi : L[i]? = some (rowO e size (.slice (some ⟨g, 0, none⟩) m cap) n (l.flatMap f))) {k : Nat} (hk : k < l.length) (j : Nat) (u : Value) (hu : (f l[k])[j]? = some u) : At W L ⟨g, 0 + k * c + j, none⟩ u :=
  at_elL hc (off := 0) (fun q x hq => by rw [Nat.zero_add]; exact at_row hi hq) hk j u hu
end
/-- the place of the first one that is wanted, or -1 -/
def idxF {α : Type} (p : α → Bool) (l : List α) : Int := match l.findIdx? p with | some i => i | none => -1
theorem idxF_some {α : Type} {p : α → Bool} {l : List α} {i : Nat} (hi : i < l.length) (h : p l[i] = true) (hb : ∀ j (hj : j < l.length), j < i → p l[j] = false) : idxF p l = i := by
  have : l.findIdx? p = some i := List.findIdx?_eq_some_iff_getElem.2 ⟨hi, h, fun j hji => by simpa using hb j (by omega) hji⟩
  simp [idxF, this]
theorem idxF_none {α : Type} {p : α → Bool} {l : List α} (hb : ∀ j (hj : j < l.length), p l[j] = false) : idxF p l = -1 := by
  have : l.findIdx? p = none := List.findIdx?_eq_none_iff.2 fun x hx => by
    obtain ⟨j, hj, rfl⟩ := List.mem_iff_getElem.1 hx
    exact hb j hj
  simp [idxF, this]
theorem idxF_any {α : Type} (p : α → Bool) (l : List α) : decide (0 ≤ idxF p l) = l.any p := by
  unfold idxF
  cases e : l.findIdx? p with
  | none =>
    have := List.findIdx?_eq_none_iff.1 e
    have h2 : l.any p = false := by
      rw [List.any_eq_false]; intro x hx; simp [this x hx]
    rw [h2]; rfl
  | some i =>
    obtain ⟨h1, h2, _⟩ := List.findIdx?_eq_some_iff_getElem.1 e
    have h3 : l.any p = true := List.any_eq_true.2 ⟨l[i], List.getElem_mem h1, h2⟩
    rw [h3]
    simp
theorem idxF_range {α : Type} (p : α → Bool) (l : List α) : -1 ≤ idxF p l ∧ idxF p l < l.length ∨ idxF p l = -1 := by
  unfold idxF
  cases e : l.findIdx? p with
  | none => right; rfl
  | some i =>
    obtain ⟨h1, h2, _⟩ := List.findIdx?_eq_some_iff_getElem.1 e
    left; simp only; omega
section
variable {P : Program} {n : Nat} {W : Base} {fr : Fr} {L : List Own} {Q : Exit → Act → World → Prop} {ops : Array Oper} {rest : List Oper} {d : Nat} {dst : Option Tmp} {ty : TypeId} {pos : String} {after : Array Edge} {guard : Option (Nat × Bool)}
/-- a slice held against nil -/
theorem rr_slnil {t e u : TypeId} {x y : Operand} {a : Option Addr} {m c : Nat} {b : Bool} (ht : P.underlying t = some (.slice e)) (hx : ev fr x = some (.slice a m c)) (hy : ev fr y = some (.slice none 0 0)) (hb : a.isNone = b) : RR P n W ⟨dst, .binOp .eql t x y u, ty, pos, after, guard⟩ fr L (.bool b) := .mk fun ac w hr _ => by
  subst hb
  have e1 : (eqGuard .eql t x y (.slice a m c) (.slice none 0 0)).run P w = .ok () w := rfl
  simp [execOp, hr.ev hx, hr.ev hy, e1, Go.Lib.run_eql_slice_nil w t e a m c 0 0 ht]
/-- a literal of no elements -/
theorem TL_lit0 {t e : TypeId} {c bytes : Nat} [hel : ElC P t e c bytes] (hn : Nat.blt d n = true)
    (h : ∀ g, TL P n W ops Q rest ((d, .slice (some ⟨g, 0, none⟩) 0 0) :: fr) (L ++ [rowO e c (.slice (some ⟨g, 0, none⟩) 0 0) 0 []])) : TL P n W ops Q (⟨some d, .buildSlice t 0 #[], ty, pos, after, none⟩ :: rest) fr L := TL_any rfl fun a w hr hm K hK => by
  obtain ⟨i, z, ht, hi, hz, hc, _, hzc, h0⟩ := hel.el.ex
  have e' : (execOp a.eval ⟨some d, .buildSlice t 0 #[], ty, pos, after, none⟩).run P w = .ok (.value (.slice (some ⟨w.heap.size, 0, none⟩) 0 0)) (w.alloc (.cells #[] e)) := by
    have hne : ¬ (0 * c > 2 ^ 24) := by omega
    simp [execOp, Instr.buildSlice, run_underlying ht, sizeOf, typeInfo, hi, hc, zeroValue, hz, Instr.fill, newRow]
    have e0 : Array.range 0 = #[] := by simp
    rw [e0, Array.map_empty]
  unfold Oper.wp; rw [e']
  exact hK _ _ ((h w.heap.size).go _ _ (hr.put hn _) (hm.append (gr_alloc w _) (Owns.one (World.ownsRow_made w #[] 0 (Nat.zero_le _) (by decide) (by simp)) fun k hk => by
    have : w.heap.size = k := Option.some.inj hk
    omega)))
/-- what is read as a slice is appended to an own one -/
theorem TL_appSl {t e : TypeId} {s x : Operand} {i size bytes m k : Nat} {v v2 : Value} {xs ys : List Value} [hel : ElC P t e size bytes] (hi : L[i]? = some (rowO e size v m xs)) (hx2 : SlL W L v2 k ys) (hs : ev fr s = some v) (hx : ev fr x = some v2) (hk : ys.length = k * size)
    (h1 : ∀ u ∈ ys, u.oneCell' = true) (h63 : m + k ≤ 140737488355328) (hb : (m + k) * bytes ≤ 140737488355328) (hn : Nat.blt d n = true)
    (h : ∀ v', TL P n W ops Q rest ((d, v') :: fr) (L.set i (rowO e size v' (m + k) (xs ++ ys)))) :
    TL P n W ops Q (⟨some d, .call { callee := .builtin .append, args := #[s, x], argTypes := #[t, t] }, ty, pos, after, none⟩ :: rest) fr L := ⟨fun a w hr hm => by
  obtain ⟨base, cap, rfl, hc1, hc2, hrd⟩ := hx2 w hm
  have hset : ys = [] → L.set i (rowO e size v (m + 0) (xs ++ [])) = L := fun _ => by
    rw [List.append_nil, Nat.add_zero]
    apply List.ext_getElem?
    intro q
    by_cases hq : i = q
    · subst hq
      rw [List.getElem?_set_self (List.getElem?_eq_some_iff.1 hi).1, hi]
    · rw [List.getElem?_set_ne hq]
  cases base with
  | none =>
    have hk0 : k = 0 := by
      rcases Nat.eq_zero_or_pos k with h | h
      · exact h
      · obtain ⟨b, off, h, _⟩ := hrd h; cases h
    subst hk0
    have hy : ys = [] := List.eq_nil_of_length_eq_zero (by rw [hk]; simp)
    subst hy
    have h2 := h v
    rw [hset rfl] at h2
    exact (TL_append0 hel.el hi hs hx hn h2).go a w hr hm
  | some p =>
    have hrd' : ∀ j u, ys[j]? = some u → w.cell? (p.add j) = some u := fun j u hj => by
      obtain ⟨b, off, hb, hr⟩ := hrd (by
        rcases Nat.eq_zero_or_pos k with h | h
        · subst h
          have := (List.getElem?_eq_some_iff.1 hj).1
          rw [hk] at this; simp at this
        · exact h)
      simp only [Option.some.injEq] at hb
      subst hb
      rw [addr_add]; exact hr j u hj
    exact TL_append_at (c := cap) hel.el hi hs hx hrd' hk h1 h63 hb hn h hr hm⟩
end
end Go.Proofs.Ytnooleopmlijeaa.eng
