/- Trees that came in, opened. -/
import Derived.Test.YtnicebdkejkieaaGramI
import Derived.Test.YtnicebdkejkieaaTreeS
namespace Go.Proofs.Ytnicebdkejkieaa.eng
open Go.RowKit kit mix gramL treeL Go.ChangeShapes Go.WideShapes Go.ChangeAt
set_option maxRecDepth 100000
section
variable {H : Type} {enc0 : TypeId × Value → H} {P : Program} {W : World} {M : Msr P H}
/-- what a datum of so much depth reads as -/
def OpensF (M : Msr P H) (enc0 : TypeId × Value → H) (W : World) (fuel : Nat) (t : TypeId) {α : Type} (is : List Value → α → Prop) : Prop :=
  ∀ cs x, DataW.trod enc0 P W 0 (fun _ => true) true fuel t cs = some x → M.ok t x.1 → ∃ a, is cs a
theorem OpensM.at {fuel : Nat} {t : TypeId} {α : Type} {is : List Value → α → Prop} (h : OpensM M enc0 W t is) : OpensF M enc0 W fuel t is := fun cs x => h fuel cs x
theorem opensF_slice {fuel : Nat} {t e : TypeId} {c : Nat} (ht : P.underlying t = some (.slice e)) (hc : P.cellsOf e = c) (hc0 : 0 < c) {α : Type} {is : List Value → α → Prop} (hd : ∀ n, fuel = n + 1 → OpensF M enc0 W n e is) (hl : ∀ cs a, is cs a → cs.length = c) : OpensF M enc0 W fuel t (fun cs l => isSl W is c cs l ∧ M.lim e l.length) := fun cs x h hm => by
  rcases DataW.trod_slice ht h with ⟨rfl, _⟩ | ⟨a, len, cap, elems, rest, n, hf, rfl, hx, _, hlc, hmx, hel, hread, _⟩
  · exact ⟨[], ⟨_, rfl, none, 0, rfl, Nat.le_refl _, by decide, fun h => by simp at h⟩, M.zero e⟩
  · rw [hx] at hm
    obtain ⟨hlim, hall⟩ := M.slice ht hm
    have each : ∀ i, i < len → ∃ y : α, ∃ cs, W.cells? 0 (a.add (i * c)) c = some cs ∧ is cs y := fun i hi => by
      have h1 := hread i hi
      rw [hc, List.getElem?_eq_getElem (by omega)] at h1
      cases hcell : W.cells? 0 (a.add (i * c)) c with
      | none => rw [hcell] at h1; simp at h1
      | some cs =>
        rw [hcell] at h1
        obtain ⟨y, hy⟩ := hd n hf cs _ h1 (hall _ (List.mem_map.2 ⟨_, List.getElem_mem (by omega), rfl⟩))
        exact ⟨y, cs, rfl, hy⟩
    obtain ⟨l, hll, hp⟩ := list_of len each
    subst hll
    refine ⟨l, ⟨_, rfl, some a, cap, rfl, hlc, hmx, fun h0 => ?_⟩, by rw [List.length_map, hel] at hlim; exact hlim⟩
    obtain ⟨cs0, h1, h2⟩ := hp 0 l[0] (List.getElem?_eq_getElem h0)
    have h3 := (cells_some h1).2 0 hc0
    have hlen := (cells_some h1).1
    rw [List.getElem?_eq_getElem (by omega)] at h3
    have hsp := spot_none h3
    have e0 : a.spot = none := by
      rw [Nat.zero_mul] at hsp
      unfold Addr.add at hsp
      simpa using hsp
    obtain ⟨b, off, spot⟩ := a
    obtain rfl : spot = none := e0
    refine ⟨b, off, rfl, fun i hi => ?_⟩
    obtain ⟨cs, h4, h5⟩ := hp i l[i] (List.getElem?_eq_getElem hi)
    refine ⟨cs, h5, fun j u hj => ?_⟩
    have hj2 : j < c := by
      have := (List.getElem?_eq_some_iff.1 hj).1
      rw [(cells_some h4).1] at this; exact this
    have h6 := (cells_some h4).2 j hj2
    rw [hj] at h6
    have e1 : ∀ (o k : Nat), (⟨b, o, none⟩ : Addr).add k = ⟨b, o + k, none⟩ := fun o k => by unfold Addr.add; simp
    rw [e1, e1] at h6
    rw [← h6]
theorem fieldF_of {t : TypeId} {fs : Array Field} (ht : P.underlying t = some (.struct fs)) {fuel : Nat} {cs : List Value} {x : DataW H × List MemPlace} (h : DataW.trod enc0 P W 0 (fun _ => true) true fuel t cs = some x) (hm : M.ok t x.1) :
    cs.length = P.cellsOf t ∧ ∃ n, fuel = n + 1 ∧ ∀ (i : Nat) (f : Field), fs[i]? = some f → ∀ {α : Type} {is : List Value → α → Prop}, OpensF M enc0 W n f.type is → ∃ a, is ((cs.drop f.offset).take (P.cellsOf f.type)) a := by
  obtain ⟨xs, n, hn, hx, hl, hlen, hf⟩ := DataW.trod_struct ht h
  refine ⟨hl, n, hn, fun i f hi α is ho => ?_⟩
  have h1 := hf i f hi
  have hlt : i < xs.length := by rw [hlen]; exact (Array.getElem?_eq_some_iff.1 hi).1
  rw [List.getElem?_eq_getElem hlt] at h1
  rw [hx] at hm
  exact ho _ _ h1 (M.strct ht hm i f _ hi (by rw [List.getElem?_map, List.getElem?_eq_getElem hlt]; rfl))
end
theorem opensF_tree {H : Type} {M : Msr Try.prog H} {enc0 : TypeId × Value → H} {W : World} : ∀ (F fuel : Nat), fuel ≤ F → OpensF M enc0 W fuel 46 (fun cs t => TreeIs (fun k => k < W.heap.size) W cs t)
  | 0, fuel, hF, cs, x, h, hm => by
    obtain ⟨_, n, hn, _⟩ := fieldF_of Try.underlying46 h hm
    omega
  | F + 1, fuel, hF, cs, x, h, hm => by
    obtain ⟨hl, n, hn, hfs⟩ := fieldF_of Try.underlying46 h hm
    have hl3 : cs.length = 3 := hl
    obtain ⟨p, e0, k1⟩ := hfs 0 _ rfl (OpensM.at (opensM_i64 Try.underlying3))
    obtain ⟨k, e1, q1⟩ := hfs 1 _ rfl (OpensM.at (opensM_i64 Try.underlying3))
    obtain ⟨l, ⟨v, e2, hs⟩, _⟩ := hfs 2 _ rfl (opensF_slice (c := 3) Try.underlying44 (by kernel_rfl) (by decide) (fun m hm => opensF_tree F m (by omega)) fun cs a h => h.len3)
    replace e0 : (cs.drop 0).take 1 = [.int .i64 p] := e0
    replace e1 : (cs.drop 1).take 1 = [.int .i64 k] := e1
    replace e2 : (cs.drop 2).take 1 = [v] := e2
    refine ⟨.mk p k l, tree_iff.2 ⟨v, ?_, k1, q1, slf_any (s := treeS) hs (fun cs a h => h) (by decide)⟩⟩
    match cs, hl3 with
    | [x, y, z], _ =>
      simp only [List.drop_succ_cons, List.drop_zero, List.take_succ_cons, List.take_zero, List.cons.injEq, and_true] at e0 e1 e2
      subst e0 e1 e2
      rfl
theorem open_tree {H : Type} {enc0 : TypeId × Value → H} {W : World} {base : Nat} {v : Value} {d : DataW H} {ps : List MemPlace} (hv : Value.okWide Try.prog W .any base 46 v) (h : DataW.Trod enc0 Try.prog W 0 (fun _ => true) true 46 v d ps) {ts : List TypeId} {ds : List (DataW H)} (hsz : (DataW.weightsEach Try.prog ts ds).all (· ≤ reachBytes) = true) (j : Nat) (hj : ts[j]? = some 46) (hd : ds[j]? = some d) :
    ∃ t : Tree, TreeR (fun k => k < W.heap.size) W v t := by
  obtain ⟨cs, t, rfl, h1⟩ := topM_agg (M := weightM Try.prog H) (is := fun cs t => TreeIs (fun k => k < W.heap.size) W cs t) Try.underlying46 hv h (fun fuel => opensF_tree fuel fuel (Nat.le_refl _)) (weightM_top hsz j hj hd)
  obtain ⟨vk, e, a1, a2, a3⟩ := tree_mk h1
  refine ⟨t, vk, ?_, a1, a2, a3⟩
  unfold treeV
  rw [← e]
end Go.Proofs.Ytnicebdkejkieaa.eng
