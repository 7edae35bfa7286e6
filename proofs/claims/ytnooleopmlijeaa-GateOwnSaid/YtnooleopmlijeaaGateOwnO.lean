/- A gate that came in, opened; GateOwn's walk in the row's words. -/
import Derived.Test.YtnooleopmlijeaaReadM
import Derived.Test.YtnooleopmlijeaaEvO
import Derived.Test.YtnooleopmlijeaaGateOwnW
namespace Go.Proofs.Ytnooleopmlijeaa.eng
open Go.RowKit kit mix gateL
set_option maxRecDepth 100000
theorem opensM_gate {H : Type} {M : Msr Try.prog H} {enc0 : TypeId × Value → H} {W : World} : OpensM M enc0 W 59 (fun cs (x : Value × List Ev × Int × Int) => cs = [x.1, .int .i64 x.2.2.1, .int .i64 x.2.2.2] ∧ Sl W x.1 x.2.1.length (x.2.1.flatMap evC) ∧ M.lim 56 x.2.1.length) := fun fuel cs x h hm => by
  obtain ⟨hl, hfs⟩ := fieldM_of Try.underlying59 h hm
  have hl3 : cs.length = 3 := hl
  have hev : OpensM M enc0 W 56 (fun cs (f : Ev) => cs = evC f) := opensM_of (opens_ev.mono fun cs a h => h.1)
  obtain ⟨l, e0⟩ := hfs 0 _ rfl (opensM_slice (c := 2) Try.underlying22 (by kernel_rfl) (by decide) hev fun cs a h => by rw [h]; rfl)
  obtain ⟨c, e1, _, _⟩ := hfs 1 _ rfl (opensM_i64 Try.underlying3)
  obtain ⟨g, e2, _, _⟩ := hfs 2 _ rfl (opensM_i64 Try.underlying3)
  obtain ⟨⟨v, e0, hs⟩, hlim⟩ := e0
  replace e0 : (cs.drop 0).take 1 = [v] := e0
  replace e1 : (cs.drop 1).take 1 = [.int .i64 c] := e1
  replace e2 : (cs.drop 2).take 1 = [.int .i64 g] := e2
  refine ⟨(v, l, c, g), ?_, hs.flat (fun _ => rfl) (by decide) (fun cs a h => h), hlim⟩
  match cs, hl3 with
  | [x, y, z], _ =>
    simp only [List.drop_succ_cons, List.drop_zero, List.take_succ_cons, List.take_zero, List.cons.injEq, and_true] at e0 e1 e2
    subst e0 e1 e2
    rfl
theorem open_gate {H : Type} {enc0 : TypeId × Value → H} {W : World} {base : Nat} {v : Value} {d : DataW H} {ps : List MemPlace} (hv : Value.okWide Try.prog W .any base 59 v) (h : DataW.Trod enc0 Try.prog W 0 (fun _ => true) true 59 v d ps) {ts : List TypeId} {ds : List (DataW H)} (hsz : (DataW.weightsEach Try.prog ts ds).all (· ≤ reachBytes) = true) (j : Nat) (hj : ts[j]? = some 59) (hd : ds[j]? = some d) :
    ∃ (vw : Value) (wait : List Ev) (c g : Int), v = gaV vw c g ∧ Sl W vw wait.length (wait.flatMap evC) ∧ wait.length * 16 ≤ 140737488351232 := by
  obtain ⟨cs, ⟨vw, wait, c, g⟩, rfl, h1, h2, h3⟩ := topM_agg (M := weightM Try.prog H) Try.underlying59 hv h opensM_gate (weightM_top hsz j hj hd)
  refine ⟨vw, wait, c, g, ?_, h2, h3⟩
  rw [← Array.toArray_toList (xs := cs), h1]; rfl
end Go.Proofs.Ytnooleopmlijeaa.eng
namespace Go.Proofs.Ytnooleopmlijeaa.gateOwn
open Go.RowKit kit mix gateL eng
theorem walk (w : World) (v0 : Value) (vw : Value) (wait : List Ev) (c g : Int) (hv : v0 = gaV vw c g) (hs : Sl w vw wait.length (wait.flatMap evC)) (hl : wait.length * 16 ≤ 140737488351232) (vl : Value) (l : List Ev) (hs2 : Sl w vl l.length (l.flatMap evC)) (_ : ∀ f ∈ l, okEv f) (hl2 : l.length * 16 ≤ 140737488351232) :
    Calls Try.prog 9 #[v0, vl] w (Meets (ret (.bool true)) w) := by
  subst hv
  exact walkS w vw wait c g hs hl vl l hs2 hl2
end Go.Proofs.Ytnooleopmlijeaa.gateOwn
