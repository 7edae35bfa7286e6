/- Events that came in, opened. -/
import Derived.Test.YtnooleopmlijeaaEv
namespace Go.Proofs.Ytnooleopmlijeaa.eng
open Go.RowKit kit mix gateL
set_option maxRecDepth 100000
def okEv (f : Ev) : Prop := (-9223372036854775808 ≤ f.1 ∧ f.1 ≤ 9223372036854775807) ∧ (-9223372036854775808 ≤ f.2 ∧ f.2 ≤ 9223372036854775807)
theorem opens_ev {H : Type} {enc0 : TypeId × Value → H} {W : World} : Opens enc0 Try.prog W 56 (fun cs f => cs = evC f ∧ okEv f) := fun fuel cs x h => by
  obtain ⟨hl, hfs⟩ := field_of Try.underlying56 h
  have hl3 : cs.length = 2 := hl
  obtain ⟨k, e0, k1, k2⟩ := hfs 0 _ rfl (opens_i64 Try.underlying3)
  obtain ⟨q, e1, q1, q2⟩ := hfs 1 _ rfl (opens_i64 Try.underlying3)
  replace e0 : (cs.drop 0).take 1 = [.int .i64 k] := e0
  replace e1 : (cs.drop 1).take 1 = [.int .i64 q] := e1
  refine ⟨(k, q), ?_, ⟨k1, k2⟩, ⟨q1, q2⟩⟩
  match cs, hl3 with
  | [x, y], _ =>
    simp only [List.drop_succ_cons, List.drop_zero, List.take_succ_cons, List.take_zero, List.cons.injEq, and_true] at e0 e1
    subst e0 e1
    rfl
theorem open_evs {H : Type} {enc0 : TypeId × Value → H} {W : World} {base : Nat} {v : Value} {d : DataW H} {ps : List MemPlace} (hv : Value.okWide Try.prog W .any base 22 v) (h : DataW.Trod enc0 Try.prog W 0 (fun _ => true) true 22 v d ps) {ts : List TypeId} {ds : List (DataW H)} (hsz : (DataW.weightsEach Try.prog ts ds).all (· ≤ reachBytes) = true) (j : Nat) (hj : ts[j]? = some 22) (hd : ds[j]? = some d) :
    ∃ l : List Ev, Sl W v l.length (l.flatMap evC) ∧ (∀ f ∈ l, okEv f) ∧ l.length * 16 ≤ 140737488351232 := by
  obtain ⟨l, h1, h2, h3⟩ := open_flat Try.underlying22 (c := 2) (by kernel_rfl) (by decide) evC (fun _ => rfl) okEv (fun n cs x hx => let ⟨f, e, h⟩ := opens_ev n cs x hx; ⟨f, e, h⟩) hv h
  exact ⟨l, h1, h2, size_flat (n := l.length) hsz hj hd Try.underlying22 (by kernel_rfl) (by rcases h3 with ⟨h, rfl⟩ | h; exact .inl ⟨h, rfl⟩; exact .inr h)⟩
end Go.Proofs.Ytnooleopmlijeaa.eng
