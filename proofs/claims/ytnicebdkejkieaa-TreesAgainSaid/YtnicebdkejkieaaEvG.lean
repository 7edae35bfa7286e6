/- Lists of events that came in, opened. -/
import Derived.Test.YtnicebdkejkieaaGramI
namespace Go.Proofs.Ytnicebdkejkieaa.eng
open Go.RowKit kit mix gramL
set_option maxRecDepth 100000
theorem opensM_evt {H : Type} {M : Msr Try.prog H} {enc0 : TypeId × Value → H} {W : World} : OpensM M enc0 W 78 (fun cs x => cs = symC x ∧ okSym x) := fun fuel cs x h hm => by
  obtain ⟨hl, hfs⟩ := fieldM_of Try.underlying78 h hm
  have hl2 : cs.length = 2 := hl
  obtain ⟨k, e0, k1⟩ := hfs 0 _ rfl (opensM_i64 Try.underlying3)
  obtain ⟨q, e1, q1⟩ := hfs 1 _ rfl (opensM_i64 Try.underlying3)
  replace e0 : (cs.drop 0).take 1 = [.int .i64 k] := e0
  replace e1 : (cs.drop 1).take 1 = [.int .i64 q] := e1
  refine ⟨(k, q), ?_, k1, q1⟩
  match cs, hl2 with
  | [x, y], _ =>
    simp only [List.drop_succ_cons, List.drop_zero, List.take_succ_cons, List.take_zero, List.cons.injEq, and_true] at e0 e1
    subst e0 e1
    rfl
theorem open_evs {H : Type} {enc0 : TypeId × Value → H} {W : World} {base : Nat} {v : Value} {d : DataW H} {ps : List MemPlace} (hv : Value.okWide Try.prog W .any base 75 v) (h : DataW.Trod enc0 Try.prog W 0 (fun _ => true) true 75 v d ps) {ts : List TypeId} {ds : List (DataW H)} (hsz : (DataW.weightsEach Try.prog ts ds).all (· ≤ reachBytes) = true) (j : Nat) (hj : ts[j]? = some 75) (hd : ds[j]? = some d) :
    ∃ l : List Sym, Sl W v l.length (l.flatMap symC) := by
  obtain ⟨l, h1, h2⟩ := topM_slice (M := weightM Try.prog H) (c := 2) Try.underlying75 (by kernel_rfl) (by decide) opensM_evt (fun cs a h => by rw [h.1]; rfl) hv h (weightM_top hsz j hj hd)
  exact ⟨l, h1.flat (fun _ => rfl) (by decide) fun cs a h => h.1⟩
end Go.Proofs.Ytnicebdkejkieaa.eng
