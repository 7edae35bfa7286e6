/- Slices of elements of some cells each, whatever they are. -/
import Derived.Test.YtnicebdkejkieaaRead
import Derived.Test.YtnicebdkejkieaaOpx
import Derived.Test.YtnicebdkejkieaaMixV
namespace Go.Proofs.Ytnicebdkejkieaa.eng
open Go.RowKit kit mix
section
variable {α : Type} {f : α → List Value} {c : Nat}
theorem get_el (hc : ∀ a, (f a).length = c) : ∀ (l : List α) (k j : Nat) (h : k < l.length), j < c → (l.flatMap f)[k * c + j]? = (f l[k])[j]?
  | a :: r, 0, j, h, hj => by
    rw [List.flatMap_cons, List.getElem?_append_left (by rw [hc]; omega)]
    simp
  | a :: r, k + 1, j, h, hj => by
    have ih := get_el hc r k j (by simpa using h) hj
    rw [List.flatMap_cons, List.getElem?_append_right (by rw [hc, Nat.succ_mul]; omega), hc]
    simp only [List.getElem_cons_succ]
    rw [← ih, Nat.succ_mul]
    congr 1
    omega
theorem len_el (hc : ∀ a, (f a).length = c) : ∀ (l : List α), (l.flatMap f).length = l.length * c
  | [] => by simp
  | a :: r => by rw [List.flatMap_cons, List.length_append, hc, len_el hc r, List.length_cons, Nat.succ_mul, Nat.add_comm]
theorem at_el (hc : ∀ a, (f a).length = c) {W : World} {L : List Own} {b off : Nat} {l : List α} (h : Rd W b off (l.flatMap f)) {k : Nat} (hk : k < l.length) (j : Nat) (u : Value) (hu : (f l[k])[j]? = some u) : At W L ⟨b, off + k * c + j, none⟩ u := by
  have hj : j < c := by rw [← hc l[k]]; exact (List.getElem?_eq_some_iff.1 hu).1
  rw [Nat.add_assoc]
  exact at_rd h (by rw [get_el hc l k j hk hj]; exact hu)
/-- the same of cells that are known as long as L is -/
theorem at_elL (hc : ∀ a, (f a).length = c) {W : Base} {L : List Own} {b off : Nat} {l : List α} (h : ∀ j u, (l.flatMap f)[j]? = some u → At W L ⟨b, off + j, none⟩ u) {k : Nat} (hk : k < l.length) (j : Nat) (u : Value) (hu : (f l[k])[j]? = some u) : At W L ⟨b, off + k * c + j, none⟩ u := by
  have hj : j < c := by rw [← hc l[k]]; exact (List.getElem?_eq_some_iff.1 hu).1
  rw [Nat.add_assoc]
  exact h _ _ (by rw [get_el hc l k j hk hj]; exact hu)
theorem at_rowel (hc : ∀ a, (f a).length = c) {W : Base} {L : List Own} {i g m cap n size : Nat} {e : TypeId} {l : List α} (hi : L[i]? = some (rowO e size (.slice (some ⟨g, 0, none⟩) m cap) n (l.flatMap f))) {k : Nat} (hk : k < l.length) (j : Nat) (u : Value) (hu : (f l[k])[j]? = some u) : At W L ⟨g, 0 + k * c + j, none⟩ u :=
  at_elL hc (off := 0) (fun q x hq => by rw [Nat.zero_add]; exact at_row hi hq) hk j u hu
end
/-- the place of the first one that is wanted, or -1 -/
def idxF {α : Type} (p : α → Bool) (l : List α) : Int := match l.findIdx? p with | some i => i | none => -1
theorem idxF_some {α : Type} {p : α → Bool} {l : List α} {i : Nat} (hi : i < l.length) (h : p l[i] = true) (hb : ∀ j (hj : j < l.length), j < i → p l[j] = false) : idxF p l = i := by
  have : l.findIdx? p = some i := List.findIdx?_eq_some_iff_getElem.2 ⟨hi, h, fun j hji => by simpa using hb j (by omega) hji⟩
  simp [idxF, this]
theorem idxF_none {α : Type} {p : α → Bool} {l : List α} (hb : ∀ j (hj : j < l.length), p l[j] = false) : idxF p l = -1 := by
  have : l.findIdx? p = none := List.findIdx?_eq_none_iff.2 fun x hx => by
    obtain ⟨j, hj, rfl⟩ := List.mem_iff_getElem.1 hx
    exact hb j hj
  simp [idxF, this]
theorem idxF_any {α : Type} (p : α → Bool) (l : List α) : decide (0 ≤ idxF p l) = l.any p := by
  unfold idxF
  cases e : l.findIdx? p with
  | none =>
    have := List.findIdx?_eq_none_iff.1 e
    have h2 : l.any p = false := by
      rw [List.any_eq_false]; intro x hx; simp [this x hx]
    rw [h2]; rfl
  | some i =>
    obtain ⟨h1, h2, _⟩ := List.findIdx?_eq_some_iff_getElem.1 e
    have h3 : l.any p = true := List.any_eq_true.2 ⟨l[i], List.getElem_mem h1, h2⟩
    rw [h3]
    simp
theorem idxF_range {α : Type} (p : α → Bool) (l : List α) : -1 ≤ idxF p l ∧ idxF p l < l.length ∨ idxF p l = -1 := by
  unfold idxF
  cases e : l.findIdx? p with
  | none => right; rfl
  | some i =>
    obtain ⟨h1, h2, _⟩ := List.findIdx?_eq_some_iff_getElem.1 e
    left; simp only; omega
section
variable {P : Program} {n : Nat} {W : Base} {fr : Fr} {L : List Own} {Q : Exit → Act → World → Prop} {ops : Array Oper} {rest : List Oper} {d : Nat} {dst : Option Tmp} {ty : TypeId} {pos : String} {after : Array Edge} {guard : Option (Nat × Bool)}
/-- a slice held against nil -/
theorem rr_slnil {t e u : TypeId} {x y : Operand} {a : Option Addr} {m c : Nat} {b : Bool} (ht : P.underlying t = some (.slice e)) (hx : ev fr x = some (.slice a m c)) (hy : ev fr y = some (.slice none 0 0)) (hb : a.isNone = b) : RR P n W ⟨dst, .binOp .eql t x y u, ty, pos, after, guard⟩ fr L (.bool b) := .mk fun ac w hr _ => by
  subst hb
  have e1 : (eqGuard .eql t x y (.slice a m c) (.slice none 0 0)).run P w = .ok () w := rfl
  simp [execOp, hr.ev hx, hr.ev hy, e1, Go.Lib.run_eql_slice_nil w t e a m c 0 0 ht]
/-- a literal of no elements -/
theorem TL_lit0 {t e : TypeId} {c bytes : Nat} [hel : ElC P t e c bytes] (hn : Nat.blt d n = true)
    (h : ∀ g, TL P n W ops Q rest ((d, .slice (some ⟨g, 0, none⟩) 0 0) :: fr) (L ++ [rowO e c (.slice (some ⟨g, 0, none⟩) 0 0) 0 []])) : TL P n W ops Q (⟨some d, .buildSlice t 0 #[], ty, pos, after, none⟩ :: rest) fr L := TL_any rfl fun a w hr hm K hK => by
  obtain ⟨i, z, ht, hi, hz, hc, _, hzc, h0⟩ := hel.el.ex
  have e' : (execOp a.eval ⟨some d, .buildSlice t 0 #[], ty, pos, after, none⟩).run P w = .ok (.value (.slice (some ⟨w.heap.size, 0, none⟩) 0 0)) (w.alloc (.cells #[] e)) := by
    have hne : ¬ (0 * c > 2 ^ 24) := by omega
    simp [execOp, Instr.buildSlice, run_underlying ht, sizeOf, typeInfo, hi, hc, zeroValue, hz, Instr.fill, newRow]
    have e0 : Array.range 0 = #[] := by simp
    rw [e0, Array.map_empty]
  unfold Oper.wp; rw [e']
  exact hK _ _ ((h w.heap.size).go _ _ (hr.put hn _) (hm.append (gr_alloc w _) (Owns.one (World.ownsRow_made w #[] 0 (Nat.zero_le _) (by decide) (by simp)) fun k hk => by
    have : w.heap.size = k := Option.some.inj hk
    omega)))
/-- what is read as a slice is appended to an own one -/
theorem TL_appSl {t e : TypeId} {s x : Operand} {i size bytes m k : Nat} {v v2 : Value} {xs ys : List Value} [hel : ElC P t e size bytes] (hi : L[i]? = some (rowO e size v m xs)) (hx2 : SlL W L v2 k ys) (hs : ev fr s = some v) (hx : ev fr x = some v2) (hk : ys.length = k * size)
    (h1 : ∀ u ∈ ys, u.oneCell' = true) (h63 : m + k ≤ 140737488355328) (hb : (m + k) * bytes ≤ 140737488355328) (hn : Nat.blt d n = true)
    (h : ∀ v', TL P n W ops Q rest ((d, v') :: fr) (L.set i (rowO e size v' (m + k) (xs ++ ys)))) :
    TL P n W ops Q (⟨some d, .call { callee := .builtin .append, args := #[s, x], argTypes := #[t, t] }, ty, pos, after, none⟩ :: rest) fr L := ⟨fun a w hr hm => by
  obtain ⟨base, cap, rfl, hc1, hc2, hrd⟩ := hx2 w hm
  have hset : ys = [] → L.set i (rowO e size v (m + 0) (xs ++ [])) = L := fun _ => by
    rw [List.append_nil, Nat.add_zero]
    apply List.ext_getElem?
    intro q
    by_cases hq : i = q
    · subst hq
      rw [List.getElem?_set_self (List.getElem?_eq_some_iff.1 hi).1, hi]
    · rw [List.getElem?_set_ne hq]
  cases base with
  | none =>
    have hk0 : k = 0 := by
      rcases Nat.eq_zero_or_pos k with h | h
      · exact h
      · obtain ⟨b, off, h, _⟩ := hrd h; cases h
    subst hk0
    have hy : ys = [] := List.eq_nil_of_length_eq_zero (by rw [hk]; simp)
    subst hy
    have h2 := h v
    rw [hset rfl] at h2
    exact (TL_append0 hel.el hi hs hx hn h2).go a w hr hm
  | some p =>
    have hrd' : ∀ j u, ys[j]? = some u → w.cell? (p.add j) = some u := fun j u hj => by
      obtain ⟨b, off, hb, hr⟩ := hrd (by
        rcases Nat.eq_zero_or_pos k with h | h
        · subst h
          have := (List.getElem?_eq_some_iff.1 hj).1
          rw [hk] at this; simp at this
        · exact h)
      simp only [Option.some.injEq] at hb
      subst hb
      rw [addr_add]; exact hr j u hj
    exact TL_append_at (c := cap) hel.el hi hs hx hrd' hk h1 h63 hb hn h hr hm⟩
/-- an own slice's value is one cell -/
theorem TL_slv {i size m : Nat} {e : TypeId} {v : Value} {xs : List Value} (hi : L[i]? = some (rowO e size v m xs)) (h : v.cells = #[v] → v.oneCell' = true → TL P n W ops Q rest fr L) : TL P n W ops Q rest fr L := ⟨fun a w hr hm => by
  have h1 : w.ownsRow 0 e size v m xs := hm.get hi
  rcases h1.2 with ⟨hv, _⟩ | ⟨g, cap, cur, hv, _⟩
  · exact (h (by rw [hv]; rfl) (by rw [hv]; rfl)).go a w hr hm
  · exact (h (by rw [hv]; rfl) (by rw [hv]; rfl)).go a w hr hm⟩
/-- 's[i:j]' of a slice -/
def subV (base : Option Addr) (cap c i j : Nat) : Value := .slice (if cap = i then base else base.map (fun (q : Addr) => q.add (i * c))) (j - i) (cap - i)
theorem rr_slgen {t e : TypeId} {x : Operand} {lo hi : Option Operand} {agg : Bool} {c i j len cap : Nat} {base : Option Addr} (ht : P.underlying t = some (.slice e)) (he : Ty P e agg c) (hx : ev fr x = some (.slice base len cap))
    (hlo : match lo with | none => i = 0 | some z => ∃ k, ev fr z = some (.int k (i : Int))) (hhi : match hi with | none => j = len | some z => ∃ k, ev fr z = some (.int k (j : Int))) (h1 : i ≤ j) (h2 : j ≤ cap) :
    RR P n W ⟨dst, .slice t x lo hi none, ty, pos, after, guard⟩ fr L (subV base cap c i j) := .mk fun a w hr _ => by
  have e0 : (0 : Int) ≤ (i : Int) := by omega
  have hb : ∀ (k : IntKind) (p q : Nat) (cd : BoundsCode), p ≤ q → (Instr.sliceBound (.int k (p : Int)) q cd).run P w = .ok p w := fun k p q cd h => by
    have : (0 : Int) ≤ (p : Int) ∧ (p : Int) ≤ (q : Int) := by omega
    simp [Instr.sliceBound, asIntOf, this]
  unfold subV
  cases lo <;> cases hi
  · simp only at hlo hhi
    subst hlo hhi
    simp [execOp, hr.ev hx, Instr.sliceAt, Instr.slice, run_underlying ht, Instr.sliceBounds, he.size]
  · obtain ⟨k, hk⟩ := hhi
    simp only at hlo
    subst hlo
    simp [execOp, hr.ev hx, hr.ev hk, Instr.sliceAt, Instr.slice, run_underlying ht, Instr.sliceBounds, he.size, hb k j cap _ h2]
  · obtain ⟨k, hk⟩ := hlo
    simp only at hhi
    subst hhi
    simp [execOp, hr.ev hx, hr.ev hk, Instr.sliceAt, Instr.slice, run_underlying ht, Instr.sliceBounds, he.size, hb k i j _ h1]
  · obtain ⟨k, hk⟩ := hlo
    obtain ⟨k', hk'⟩ := hhi
    simp [execOp, hr.ev hx, hr.ev hk, hr.ev hk', Instr.sliceAt, Instr.slice, run_underlying ht, Instr.sliceBounds, he.size, hb k i j _ h1, hb k' j cap _ h2]
theorem rr_slsub {t e : TypeId} {x z z' : Operand} {agg : Bool} {c i j len cap : Nat} {base : Option Addr} {k k' : IntKind} (ht : P.underlying t = some (.slice e)) (he : Ty P e agg c) (hx : ev fr x = some (.slice base len cap)) (hz : ev fr z = some (.int k (i : Int))) (hz' : ev fr z' = some (.int k' (j : Int))) (h1 : i ≤ j) (h2 : j ≤ cap) :
    RR P n W ⟨dst, .slice t x (some z) (some z') none, ty, pos, after, guard⟩ fr L (subV base cap c i j) := rr_slgen (lo := some z) (hi := some z') ht he hx ⟨k, hz⟩ ⟨k', hz'⟩ h1 h2
theorem rr_slfrom {t e : TypeId} {x z : Operand} {agg : Bool} {c i len cap : Nat} {base : Option Addr} {k : IntKind} (ht : P.underlying t = some (.slice e)) (he : Ty P e agg c) (hx : ev fr x = some (.slice base len cap)) (hz : ev fr z = some (.int k (i : Int))) (h1 : i ≤ len) (h2 : len ≤ cap) :
    RR P n W ⟨dst, .slice t x (some z) none none, ty, pos, after, guard⟩ fr L (subV base cap c i len) := rr_slgen (lo := some z) (hi := none) ht he hx ⟨k, hz⟩ rfl h1 h2
theorem rr_slupto {t e : TypeId} {x z : Operand} {agg : Bool} {c j len cap : Nat} {base : Option Addr} {k : IntKind} (ht : P.underlying t = some (.slice e)) (he : Ty P e agg c) (hx : ev fr x = some (.slice base len cap)) (hz : ev fr z = some (.int k (j : Int))) (h2 : j ≤ cap) :
    RR P n W ⟨dst, .slice t x none (some z) none, ty, pos, after, guard⟩ fr L (subV base cap c 0 j) := rr_slgen (lo := none) (hi := some z) ht he hx rfl ⟨k, hz⟩ (Nat.zero_le _) h2
theorem rr_min3 {t u s : TypeId} {x y z : Operand} {m m' m2 r : Int} (hx : ev fr x = some (.int .i64 m)) (hy : ev fr y = some (.int .i64 m')) (hz : ev fr z = some (.int .i64 m2)) (h : min m (min m' m2) = r) : RR P n W ⟨dst, .call { callee := .builtin .min, args := #[x, y, z], argTypes := #[t, u, s] }, ty, pos, after, guard⟩ fr L (.int .i64 r) := .mk fun a w hr _ => by
  subst h
  have h1 := hr.ev hx
  have h2 := hr.ev hy
  have h3 := hr.ev hz
  have e : ∀ a b : Int, (if b < a then b else a) = min a b := fun a b => by split <;> omega
  simp [BigFrame.execOp_builtin, BigFrame.builtin_min, h1, h2, h3, Builtin.min_, Builtin.min2, e, Int.min_assoc]
theorem rr_max3 {t u s : TypeId} {x y z : Operand} {m m' m2 r : Int} (hx : ev fr x = some (.int .i64 m)) (hy : ev fr y = some (.int .i64 m')) (hz : ev fr z = some (.int .i64 m2)) (h : max m (max m' m2) = r) : RR P n W ⟨dst, .call { callee := .builtin .max, args := #[x, y, z], argTypes := #[t, u, s] }, ty, pos, after, guard⟩ fr L (.int .i64 r) := .mk fun a w hr _ => by
  subst h
  have h1 := hr.ev hx
  have h2 := hr.ev hy
  have h3 := hr.ev hz
  have e : ∀ a b : Int, (if a < b then b else a) = max a b := fun a b => by split <;> omega
  simp [BigFrame.execOp_builtin, BigFrame.builtin_max, h1, h2, h3, Builtin.max_, Builtin.max2, e, Int.max_assoc]
/-- a part of a slice that can be read -/
theorem sl_sub {α : Type} {f : α → List Value} {c : Nat} (hc : ∀ a, (f a).length = c) {w : World} {base : Option Addr} {cap : Nat} {l : List α} (h : Sl w (.slice base l.length cap) l.length (l.flatMap f)) {i j : Nat} (h1 : i ≤ j) (h2 : j ≤ l.length) :
    Sl w (subV base cap c i j) ((l.drop i).take (j - i)).length (((l.drop i).take (j - i)).flatMap f) := by
  obtain ⟨b, cp, he, k1, k2, k3⟩ := h
  simp only [Value.slice.injEq, true_and] at he
  obtain ⟨rfl, rfl⟩ := he
  have hlen : ((l.drop i).take (j - i)).length = j - i := by simp; omega
  refine ⟨_, cap - i, by rw [hlen]; rfl, by rw [hlen]; omega, by omega, fun h0 => ?_⟩
  rw [hlen] at h0
  obtain ⟨b, off, rfl, hr⟩ := k3 (by omega)
  refine ⟨b, off + i * c, by rw [if_neg (by omega), Option.map_some, addr_add], fun q u hq => ?_⟩
  have e : l.flatMap f = (l.take i).flatMap f ++ ((l.drop i).take (j - i)).flatMap f ++ ((l.drop i).drop (j - i)).flatMap f := by
    rw [← List.flatMap_append, ← List.flatMap_append, List.append_assoc, List.take_append_drop, List.take_append_drop]
  have hl1 : ((l.take i).flatMap f).length = i * c := by rw [len_el hc, List.length_take, Nat.min_eq_left (by omega)]
  have := hr (i * c + q) u (by
    rw [e, List.append_assoc, List.getElem?_append_right (by omega), hl1, Nat.add_sub_cancel_left, List.getElem?_append_left (List.getElem?_eq_some_iff.1 hq).1]
    exact hq)
  rw [Nat.add_assoc]; exact this
/-- what an own slice is -/
theorem TL_rowv {i size m : Nat} {e : TypeId} {v : Value} {xs : List Value} (hi : L[i]? = some (rowO e size v m xs)) (h : ∀ base cap, v = .slice base m cap → m ≤ cap → cap ≤ 9223372036854775807 → TL P n W ops Q rest fr L) : TL P n W ops Q rest fr L := ⟨fun a w hr hm => by
  have h1 : w.ownsRow 0 e size v m xs := hm.get hi
  obtain ⟨base, cap, hv, hc1, hc2, _⟩ := Sl.of_own h1
  exact (h base cap hv hc1 (by unfold maxLen at hc2; omega)).go a w hr hm⟩
theorem T_rowv {c : Code} {i size m : Nat} {e : TypeId} {v : Value} {xs : List Value} (hi : L[i]? = some (rowO e size v m xs)) (h : ∀ base cap, v = .slice base m cap → m ≤ cap → cap ≤ 9223372036854775807 → T P n W c Q fr L) : T P n W c Q fr L := ⟨fun a w hr hm => by
  have h1 : w.ownsRow 0 e size v m xs := hm.get hi
  obtain ⟨base, cap, hv, hc1, hc2, _⟩ := Sl.of_own h1
  exact (h base cap hv hc1 (by unfold maxLen at hc2; omega)).go a w hr hm⟩
theorem T_slv {c : Code} {i size m : Nat} {e : TypeId} {v : Value} {xs : List Value} (hi : L[i]? = some (rowO e size v m xs)) (h : v.cells = #[v] → v.oneCell' = true → T P n W c Q fr L) : T P n W c Q fr L := ⟨fun a w hr hm => by
  have h1 : w.ownsRow 0 e size v m xs := hm.get hi
  obtain ⟨base, cap, hv, _⟩ := Sl.of_own h1
  exact (h (by rw [hv]; rfl) (by rw [hv]; rfl)).go a w hr hm⟩
/-- closures: what is captured, evaluated -/
def opsEv (fr : Fr) : List Operand → Option (List Value)
  | [] => some []
  | x :: r => match ev fr x, opsEv fr r with | some v, some l => some (v :: l) | _, _ => none
theorem opsEv_of {a : Act} (hr : Rep n a fr) : ∀ (l : List Operand) (vs : List Value), opsEv fr l = some vs → l.map a.eval = vs
  | [], vs, h => by simp only [opsEv, Option.some.injEq] at h; subst h; rfl
  | x :: r, vs, h => by
    simp only [opsEv] at h
    split at h
    · rename_i v l h1 h2
      simp only [Option.some.injEq] at h; subst h
      simp [hr.ev h1, opsEv_of hr r l h2]
    · cases h
theorem rr_func {fn : Fn} {first cap : Array Operand} {vs us : List Value} (h1 : opsEv fr first.toList = some vs) (h2 : opsEv fr cap.toList = some us) : RR P n W ⟨dst, .makeFunc fn first cap, ty, pos, after, guard⟩ fr L (.func fn vs.toArray us.toArray) := .mk fun a w hr _ => by
  have e1 : first.map a.eval = vs.toArray := by rw [← opsEv_of hr _ _ h1, ← Array.toList_map, Array.toArray_toList]
  have e2 : cap.map a.eval = us.toArray := by rw [← opsEv_of hr _ _ h2, ← Array.toList_map, Array.toArray_toList]
  simp only [execOp, e1, e2]
  rfl
end
end Go.Proofs.Ytnicebdkejkieaa.eng
