/- Grammars and lists of symbols that came in, opened. -/
import Derived.Test.YtnicebdkejkieaaSym
import Derived.Test.YtnicebdkejkieaaMgB
namespace Go.Proofs.Ytnicebdkejkieaa.eng
open Go.RowKit kit mix gramL
set_option maxRecDepth 100000
theorem okI64_in {n : Int} (h : -9223372036854775808 ≤ n ∧ n ≤ 9223372036854775807) : kit.okI64 n := h
/-- where all blocks are the world's own -/
theorem slf_any {α : Type} {s : Shp α} {is : List Value → α → Prop} {w : World} {v : Value} {l : List α} (h : SlX w is s.c v l) (hi : ∀ cs a, is cs a → s.is (fun k => k < w.heap.size) w cs a) (h0 : 0 < s.c) : SlF s (fun k => k < w.heap.size) w v l := by
  obtain ⟨base, cap, h1, h2, h3, h4⟩ := h
  refine ⟨base, cap, h1, h2, h3, fun hl => ?_⟩
  obtain ⟨b, off, h5, h6⟩ := h4 hl
  refine ⟨b, off, h5, ?_, fun i hi' => let ⟨cs, h7, h8⟩ := h6 i hi'; ⟨cs, hi _ _ h7, h8⟩⟩
  obtain ⟨cs, h7, h8⟩ := h6 0 hl
  have hlen := s.len (hi _ _ h7)
  have hc := h8 0 (cs[0]'(by omega)) (List.getElem?_eq_getElem (by omega))
  have := World.block_lt_of_cell? w _ hc
  exact this
theorem opensM_sym {H : Type} {M : Msr Try.prog H} {enc0 : TypeId × Value → H} {W : World} : OpensM M enc0 W 58 (fun cs x => cs = symC x ∧ okSym x) := fun fuel cs x h hm => by
  obtain ⟨hl, hfs⟩ := fieldM_of Try.underlying58 h hm
  have hl2 : cs.length = 2 := hl
  obtain ⟨k, e0, k1⟩ := hfs 0 _ rfl (opensM_i64 Try.underlying3)
  obtain ⟨q, e1, q1⟩ := hfs 1 _ rfl (opensM_i64 Try.underlying3)
  replace e0 : (cs.drop 0).take 1 = [.int .i64 k] := e0
  replace e1 : (cs.drop 1).take 1 = [.int .i64 q] := e1
  refine ⟨(k, q), ?_, k1, q1⟩
  match cs, hl2 with
  | [x, y], _ =>
    simp only [List.drop_succ_cons, List.drop_zero, List.take_succ_cons, List.take_zero, List.cons.injEq, and_true] at e0 e1
    subst e0 e1
    rfl
theorem opensM_prod {H : Type} {M : Msr Try.prog H} {enc0 : TypeId × Value → H} {W : World} : OpensM M enc0 W 36 (fun cs p => prodS.is (fun k => k < W.heap.size) W cs p) := fun fuel cs x h hm => by
  obtain ⟨hl, hfs⟩ := fieldM_of Try.underlying36 h hm
  have hl2 : cs.length = 2 := hl
  obtain ⟨k, e0, k1⟩ := hfs 0 _ rfl (opensM_i64 Try.underlying3)
  obtain ⟨l, ⟨v, e1, hs⟩, _⟩ := hfs 1 _ rfl (opensM_slice (c := 2) Try.underlying34 (by kernel_rfl) (by decide) opensM_sym fun cs a h => by rw [h.1]; rfl)
  replace e0 : (cs.drop 0).take 1 = [.int .i64 k] := e0
  replace e1 : (cs.drop 1).take 1 = [v] := e1
  refine ⟨(k, l), [.int .i64 k], [v], ?_, ⟨rfl, k1⟩, v, rfl, slf_any (s := symS) hs (fun cs a h => h) (by decide)⟩
  match cs, hl2 with
  | [x, y], _ =>
    simp only [List.drop_succ_cons, List.drop_zero, List.take_succ_cons, List.take_zero, List.cons.injEq, and_true] at e0 e1
    subst e0 e1
    rfl
theorem opensM_gram {H : Type} {M : Msr Try.prog H} {enc0 : TypeId × Value → H} {W : World} : OpensM M enc0 W 24 (fun cs g => GraR (fun k => k < W.heap.size) W (.agg cs.toArray) g ∧ M.lim 36 g.prods.length) := fun fuel cs x h hm => by
  obtain ⟨hl, hfs⟩ := fieldM_of Try.underlying24 h hm
  have hl3 : cs.length = 3 := hl
  obtain ⟨t, e0, k1⟩ := hfs 0 _ rfl (opensM_i64 Try.underlying3)
  obtain ⟨n, e1, q1⟩ := hfs 1 _ rfl (opensM_i64 Try.underlying3)
  obtain ⟨l, ⟨v, e2, hs⟩, hlim⟩ := hfs 2 _ rfl (opensM_slice (c := 2) Try.underlying22 (by kernel_rfl) (by decide) opensM_prod fun cs a h => prodS.len h)
  replace e0 : (cs.drop 0).take 1 = [.int .i64 t] := e0
  replace e1 : (cs.drop 1).take 1 = [.int .i64 n] := e1
  replace e2 : (cs.drop 2).take 1 = [v] := e2
  refine ⟨⟨t, n, l⟩, ⟨v, ?_, slf_any (s := prodS) hs (fun cs a h => h) (by decide), k1, q1⟩, hlim⟩
  match cs, hl3 with
  | [x, y, z], _ =>
    simp only [List.drop_succ_cons, List.drop_zero, List.take_succ_cons, List.take_zero, List.cons.injEq, and_true] at e0 e1 e2
    subst e0 e1 e2
    rfl
theorem open_gram {H : Type} {enc0 : TypeId × Value → H} {W : World} {base : Nat} {v : Value} {d : DataW H} {ps : List MemPlace} (hv : Value.okWide Try.prog W .any base 24 v) (h : DataW.Trod enc0 Try.prog W 0 (fun _ => true) true 24 v d ps) {ts : List TypeId} {ds : List (DataW H)} (hsz : (DataW.weightsEach Try.prog ts ds).all (· ≤ reachBytes) = true) (j : Nat) (hj : ts[j]? = some 24) (hd : ds[j]? = some d) :
    ∃ g : Gram, GraR (fun k => k < W.heap.size) W v g ∧ g.prods.length * 32 ≤ 140737488351232 := by
  obtain ⟨cs, g, rfl, h1, h2⟩ := topM_agg (M := weightM Try.prog H) Try.underlying24 hv h opensM_gram (weightM_top hsz j hj hd)
  rw [Array.toArray_toList] at h1
  exact ⟨g, h1, h2⟩
theorem open_prod {H : Type} {enc0 : TypeId × Value → H} {W : World} {base : Nat} {v : Value} {d : DataW H} {ps : List MemPlace} (hv : Value.okWide Try.prog W .any base 36 v) (h : DataW.Trod enc0 Try.prog W 0 (fun _ => true) true 36 v d ps) {ts : List TypeId} {ds : List (DataW H)} (hsz : (DataW.weightsEach Try.prog ts ds).all (· ≤ reachBytes) = true) (j : Nat) (hj : ts[j]? = some 36) (hd : ds[j]? = some d) :
    ∃ p : gramL.Prod, ∃ cs, v = .agg cs ∧ prodS.is (fun k => k < W.heap.size) W cs.toList p := by
  obtain ⟨cs, p, h1, h2⟩ := topM_agg (M := weightM Try.prog H) Try.underlying36 hv h opensM_prod (weightM_top hsz j hj hd)
  exact ⟨p, cs, h1, h2⟩
theorem open_syms {H : Type} {enc0 : TypeId × Value → H} {W : World} {base : Nat} {v : Value} {d : DataW H} {ps : List MemPlace} (hv : Value.okWide Try.prog W .any base 34 v) (h : DataW.Trod enc0 Try.prog W 0 (fun _ => true) true 34 v d ps) {ts : List TypeId} {ds : List (DataW H)} (hsz : (DataW.weightsEach Try.prog ts ds).all (· ≤ reachBytes) = true) (j : Nat) (hj : ts[j]? = some 34) (hd : ds[j]? = some d) :
    ∃ l : List Sym, Sl W v l.length (l.flatMap symC) := by
  obtain ⟨l, h1, h2⟩ := topM_slice (M := weightM Try.prog H) (c := 2) Try.underlying34 (by kernel_rfl) (by decide) opensM_sym (fun cs a h => by rw [h.1]; rfl) hv h (weightM_top hsz j hj hd)
  exact ⟨l, h1.flat (fun _ => rfl) (by decide) fun cs a h => h.1⟩
end Go.Proofs.Ytnicebdkejkieaa.eng
