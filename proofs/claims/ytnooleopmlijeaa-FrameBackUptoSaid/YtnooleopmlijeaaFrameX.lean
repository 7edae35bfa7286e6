/- What the walks of cut streams share. -/
import Derived.Test.YtnooleopmlijeaaFrameE
import Derived.Test.YtnooleopmlijeaaFrameS
namespace Go.Proofs.Ytnooleopmlijeaa.eng
open Go.RowKit kit mix sumL frameL
/-- what Feed hands back, laid out -/
def feedX (b : List UInt8) (e : Int) (m : Nat) (xs : List Value) (e2 : Int) : Spec Value := ⟨fun _ => True, fun v => .tuple #[.agg #[str b, .int .i64 e], v, .int .i64 e2], fun v => [rowO 43 3 v m xs]⟩
theorem feedX_calls (b : List UInt8) (e : Int) (s : List UInt8) {b' : List UInt8} {e' : Int} {m : List Fm} {e2 : Int} (h : feedF (b, e) s = ((b', e'), m, e2)) (w : World) (hs : b.length + s.length ≤ 1000000000000) :
    Calls Try.prog 24 #[.agg #[str b, .int .i64 e], str s] w (Meets (feedX b' e' m.length (m.flatMap frC) e2) w) := by
  have h1 := feed_calls (b, e) s w hs
  rw [h] at h1
  exact h1
theorem eq_in (a b : List UInt8) (x y : Int) (w : World) : (Op.equalIn 10000 47 (.agg #[str a, .int .i64 x]) (.agg #[str b, .int .i64 y])).run Try.prog w = .ok (decide (a = b) && (x == y)) w := by
  unfold str
  go_simp
  by_cases e1 : a = b <;> by_cases e2 : x = y <;> simp [e1, e2]
/-- one own row is appended to another -/
theorem TL_appRow {P : Program} {n : Nat} {W : World} {fr : Fr} {L : List Own} {ops : Array Oper} {Q : Exit → Act → World → Prop} {rest : List Oper} {d : Nat} {ty : TypeId} {pos : String} {after : Array Edge} {t e : TypeId} {s x : Operand} {i j size bytes m k : Nat} {v v2 : Value} {xs ys : List Value} [hel : ElC P t e size bytes] (hi : L[i]? = some (rowO e size v m xs)) (hj : L[j]? = some (rowO e size v2 k ys)) (hs : ev fr s = some v) (hx : ev fr x = some v2)
    (h1 : ∀ u ∈ ys, u.oneCell' = true) (h63 : m + k ≤ 140737488355328) (hb : (m + k) * bytes ≤ 140737488355328) (hn : Nat.blt d n = true)
    (h : ∀ v', TL P n W ops Q rest ((d, v') :: fr) (L.set i (rowO e size v' (m + k) (xs ++ ys)))) :
    TL P n W ops Q (⟨some d, .call { callee := .builtin .append, args := #[s, x], argTypes := #[t, t] }, ty, pos, after, none⟩ :: rest) fr L := ⟨fun a w hr hm => by
  have hown : w.ownsRow 0 e size v2 k ys := hm.get hj
  rcases hown.2 with ⟨rfl, rfl⟩ | ⟨g, cap, cur, rfl, _⟩
  · have hy : ys = [] := List.eq_nil_of_length_eq_zero (by rw [hown.1]; simp)
    subst hy
    have hset : L.set i (rowO e size v (m + 0) (xs ++ [])) = L := by
      rw [List.append_nil, Nat.add_zero]
      apply List.ext_getElem?
      intro q
      by_cases hq : i = q
      · subst hq
        rw [List.getElem?_set_self (List.getElem?_eq_some_iff.1 hi).1, hi]
      · rw [List.getElem?_set_ne hq]
    have h2 := h v
    rw [hset] at h2
    exact (TL_append0 hel.el hi hs hx hn h2).go a w hr hm
  · refine (TL_append (c := cap) hel.el hi hs hx (fun q u hq => ?_) hown.1 h1 h63 hb hn h).go a w hr hm
    rw [addr_add, Nat.zero_add]
    exact at_row hj hq⟩
theorem one_fr (l : List Fm) : ∀ u ∈ l.flatMap frC, u.oneCell' = true := by
  intro u hu
  obtain ⟨f, _, h⟩ := List.mem_flatMap.1 hu
  simp only [frC, List.mem_cons, List.not_mem_nil, or_false] at h
  rcases h with rfl | rfl | rfl <;> rfl
end Go.Proofs.Ytnooleopmlijeaa.eng
