/- Slices of elements whose cells lead to further blocks: as raw cells; cloned. -/
import Derived.Test.YtnicebdkejkieaaSym
import Derived.Test.YtnicebdkejkieaaMgB
namespace Go.Proofs.Ytnicebdkejkieaa.eng
open Go.RowKit kit mix gramL
theorem slf_raw {α : Type} {s : Shp α} {F : Nat → Prop} {w : World} {v : Value} {l : List α} (h : SlF s F w v l) (hc0 : 0 < s.c) : ∃ css : List (List Value), css.length = l.length ∧ (∀ i (h : i < l.length) (h' : i < css.length), s.is F w css[i] l[i]) ∧ Sl w v l.length css.flatten := by
  obtain ⟨base, cap, rfl, h1, h2, h3⟩ := h
  by_cases h0 : 0 < l.length
  · obtain ⟨b, off, hb, _, hr⟩ := h3 h0
    have hlen : (List.ofFn fun i : Fin l.length => Classical.choose (hr i i.2)).length = l.length := by simp
    refine ⟨List.ofFn fun i : Fin l.length => Classical.choose (hr i i.2), hlen, fun i hi hi' => ?_, base, cap, rfl, h1, h2, fun _ => ⟨b, off, hb, fun q u hq => ?_⟩⟩
    · rw [List.getElem_ofFn]
      exact (Classical.choose_spec (hr i hi)).1
    · have hel : ∀ x ∈ List.ofFn fun i : Fin l.length => Classical.choose (hr i i.2), x.length = s.c := fun x hx => by
        obtain ⟨i, rfl⟩ := List.mem_ofFn.1 hx
        exact s.len (Classical.choose_spec (hr i i.2)).1
      have hfl : ∀ (css : List (List Value)), (∀ x ∈ css, x.length = s.c) → css.flatten.length = css.length * s.c := by
        intro css
        induction css with
        | nil => intro _; simp
        | cons x r ih => intro hx; rw [List.flatten_cons, List.length_append, hx x (by simp), ih fun y hy => hx y (by simp [hy]), List.length_cons, Nat.succ_mul, Nat.add_comm]
      have hq2 : q < l.length * s.c := by
        have := (List.getElem?_eq_some_iff.1 hq).1
        rw [hfl _ hel, hlen] at this
        exact this
      have hi : q / s.c < l.length := Nat.div_lt_of_lt_mul (by rw [Nat.mul_comm]; exact hq2)
      have hj : q % s.c < s.c := Nat.mod_lt _ hc0
      have e : q = q / s.c * s.c + q % s.c := by rw [Nat.mul_comm]; exact (Nat.div_add_mod q s.c).symm
      rw [e, flatten_get _ hel _ _ (by rw [hlen]; exact hi) hj, List.getElem_ofFn] at hq
      have := (Classical.choose_spec (hr _ hi)).2 _ _ hq
      rw [e, ← Nat.add_assoc]; exact this
  · have : l = [] := List.eq_nil_of_length_eq_zero (by omega)
    subst this
    exact ⟨[], rfl, fun i h => absurd h (by simp), base, cap, rfl, h1, h2, fun h => absurd h (by simp)⟩
theorem raw_len {α : Type} {s : Shp α} {F : Nat → Prop} {w : World} {l : List α} {css : List (List Value)} (h0 : css.length = l.length) (h : ∀ i (h : i < l.length) (h' : i < css.length), s.is F w css[i] l[i]) : css.flatten.length = l.length * s.c := by
  have hel : ∀ x ∈ css, x.length = s.c := fun x hx => by
    obtain ⟨i, hi, rfl⟩ := List.mem_iff_getElem.1 hx
    exact s.len (h i (by omega) hi)
  rw [← h0]
  clear h h0
  induction css with
  | nil => simp
  | cons x r ih => rw [List.flatten_cons, List.length_append, hel x (by simp), ih fun y hy => hel y (by simp [hy]), List.length_cons, Nat.succ_mul, Nat.add_comm]
theorem raw_mem {α : Type} {s : Shp α} {F : Nat → Prop} {w : World} {l : List α} {css : List (List Value)} (h0 : css.length = l.length) (h : ∀ i (h : i < l.length) (h' : i < css.length), s.is F w css[i] l[i]) {p : Value → Prop} (hp : ∀ cs a, s.is F w cs a → ∀ u ∈ cs, p u) : ∀ u ∈ css.flatten, p u := fun u hu => by
  obtain ⟨cs, hcs, hu⟩ := List.mem_flatten.1 hu
  obtain ⟨i, hi, rfl⟩ := List.mem_iff_getElem.1 hcs
  exact hp _ _ (h i (by omega) hi) u hu
theorem prod_one {F : Nat → Prop} {w : World} {cs : List Value} {p : gramL.Prod} (h : prodS.is F w cs p) : ∀ u ∈ cs, u.oneCell' = true := by
  obtain ⟨c1, c2, rfl, ⟨rfl, _⟩, v, rfl, ⟨b, c, rfl, _⟩⟩ := h
  intro u hu
  simp at hu
  rcases hu with rfl | rfl <;> rfl
/-- elements that lie elsewhere, seen from a later world -/
theorem els_of {α : Type} {s : Shp α} {w w' : World} {l : List α} {css : List (List Value)} (h0 : css.length = l.length) (h : ∀ i (h : i < l.length) (h' : i < css.length), s.is (fun k => k < w.heap.size) w css[i] l[i]) (hg : Gr w w') : (elsO s (fun k => k < w.heap.size) css l).holds w' :=
  ⟨⟨h0, fun i hi hi' => s.stay (h i hi hi') fun k hk => hg.block k hk⟩, fun k hk => Nat.lt_of_lt_of_le hk hg.size⟩
section
variable {P : Program} {n : Nat} {W : Base} {fr : Fr} {ops : Array Oper}
/-- what an own slice may be, told by a number -/
def slN (m q : Nat) : Value := if q = 0 then .slice none 0 0 else .slice (some ⟨(q - 1) / 18446744073709551616, 0, none⟩) m ((q - 1) % 18446744073709551616)
theorem slN_of {w : World} {e : TypeId} {size m : Nat} {v : Value} {xs : List Value} (h : (rowO e size v m xs).holds w) : ∃ q, v = slN m q := by
  have h : w.ownsRow 0 e size v m xs := h
  rcases h.2 with ⟨rfl, h0⟩ | ⟨g, cap, cur, rfl, _, _, _, hcm, _⟩
  · exact ⟨0, rfl⟩
  · unfold maxLen at hcm
    refine ⟨g * 18446744073709551616 + cap + 1, ?_⟩
    unfold slN
    rw [if_neg (by omega), show (g * 18446744073709551616 + cap + 1 - 1) / 18446744073709551616 = g by omega, show (g * 18446744073709551616 + cap + 1 - 1) % 18446744073709551616 = cap by omega]
/-- a call that hands back a slice of its own -/
theorem makes_row {i d : Nat} {o : Oper} {f : FuncId} {args : Array Value} {e : TypeId} {size m : Nat} {xs : List Value} (ho : ops[i]? = some o) (he : ∀ (fr' : Fr), (∀ q v, look fr q = some v → look fr' q = some v) → ∀ a w, Rep n a fr' → (execOp a.eval o).run P w = .ok (.enter f args) w) (hc : ∀ L w, Mem W L w → Calls P f args w (Meets (rowS e size m xs id) w)) (hg : o.guard = none) (hd : o.dst = some d) (hn : Nat.blt d n = true) :
    Makes P n W ops fr ⟨i, d, slN m, fun q => rowO e size (slN m q) m xs⟩ :=
  ⟨o, ho, fun Q fr' L hfr h => TL_call (S := rowS e size m xs id) (he fr' hfr) (hc L) hg hd hn fun v _ => by
    refine TL_know (i := L.length) (φ := ∃ q, v = slN m q) (List.getElem?_concat_length ..) (fun w h => slN_of h) ?_
    rintro ⟨q, rfl⟩
    exact h q⟩
theorem makes_one {i d : Nat} {t e : TypeId} {ty : TypeId} {pos : String} {after : Array Edge} {x : Operand} {v : Value} {c bytes : Nat} {cs : Array Value} [hel : ElC P t e c bytes] (ho : ops[i]? = some ⟨some d, .buildSlice t 1 #[(0, x)], ty, pos, after, none⟩) (hx : ev fr x = some v) (hcs : v.cells = cs) (hv : cs.size = c) (hs : Nat.ble c 16777216 = true) (hn : Nat.blt d n = true) :
    Makes P n W ops fr ⟨i, d, fun g => .slice (some ⟨g, 0, none⟩) 1 1, fun g => blkO g cs e⟩ :=
  ⟨_, ho, fun _ _ _ hfr h => TL_one (ev_mono hfr hx) hcs hv hs hn h⟩
end
set_option maxHeartbeats 2000000 in
/-- slices.Clone of productions: the cells alone -/
theorem cloneProd_calls (v : Value) (m : Nat) (xs : List Value) (w : World) (hs : Sl w v m xs) (hx : xs.length = m * 2) (h1 : ∀ u ∈ xs, u.oneCell' = true) (hl : m * 32 ≤ 140737488355328) :
    Calls Try.prog 26 #[v] w (Meets (rowS 36 2 m xs id) w) := by
  obtain ⟨base, cap, rfl, hcap, hmax, hrd⟩ := hs
  unfold maxLen at hmax
  refine enter (args := [.slice base m cap]) (n := 8) Try.func26 rfl rfl rfl ?_
  have hsl : ∀ w', Gr w w' → Sl w' (.slice base m cap) m xs := fun w' hg => Sl.gr ⟨base, cap, rfl, hcap, hmax, hrd⟩ hg
  cases base with
  | none =>
    repeat (first
      | refine qv rfl (qp rfl) rfl rfl ?_ | refine TL_nil ?_ | refine T_seq ?_ | refine T_region ?_ | refine qcT rfl ?_ | refine qcF rfl ?_ | refine T_skip ?_
      | refine T_ret ?_ | refine E_then ?_ | refine E_thenR ?_ | refine qv rfl (rr_slnil Und.eq rfl rfl rfl) rfl rfl ?_)
    have h0 : m = 0 := by
      cases m with
      | zero => rfl
      | succ k => obtain ⟨b, off, h, _⟩ := hrd (by omega); cases h
    subst h0
    have h2 : xs = [] := List.eq_nil_of_length_eq_zero (by omega)
    subst h2
    refine E_nilrow 36 2 ?_
    exact E_ret1 rfl rfl fun w hm => hm.meets (S := rowS 36 2 0 [] id) _ trivial [0] (by decide) rfl
  | some p =>
    clear hrd
    repeat (first
      | refine qv rfl (qp rfl) rfl rfl ?_ | refine TL_nil ?_ | refine T_seq ?_ | refine T_region ?_ | refine qcT rfl ?_ | refine qcF rfl ?_ | refine T_skip ?_
      | refine T_ret ?_ | refine E_then ?_ | refine E_thenR ?_ | refine qv rfl (rr_slnil Und.eq rfl rfl rfl) rfl rfl ?_)
    refine TL_lit0 rfl fun g => ?_
    repeat (first
      | refine qv rfl (qp rfl) rfl rfl ?_ | refine TL_nil ?_ | refine T_seq ?_ | refine T_region ?_ | refine qcT rfl ?_ | refine qcF rfl ?_ | refine T_skip ?_
      | refine T_ret ?_ | refine E_then ?_ | refine E_thenR ?_)
    refine TL_appSl (i := 0) rfl (fun w' hm => hsl w' hm.below) rfl rfl hx h1 (by omega) (by omega) rfl fun v' => ?_
    rw [List.nil_append]
    repeat (first
      | refine qv rfl (qp rfl) rfl rfl ?_ | refine TL_nil ?_ | refine T_seq ?_ | refine T_region ?_ | refine qcT rfl ?_ | refine qcF rfl ?_ | refine T_skip ?_
      | refine T_ret ?_ | refine E_then ?_ | refine E_thenR ?_)
    refine E_ret1 rfl rfl fun w hm => ?_
    exact hm.meets (S := rowS 36 2 m xs id) v' trivial [0] (by decide) (by simp [rowS])
end Go.Proofs.Ytnicebdkejkieaa.eng
