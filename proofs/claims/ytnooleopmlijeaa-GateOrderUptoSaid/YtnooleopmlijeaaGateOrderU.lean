/- GateOrder of what is small. -/
import Derived.Test.YtnooleopmlijeaaGateOrderW
import Derived.Test.YtnooleopmlijeaaOpenU
namespace Go.Proofs.Ytnooleopmlijeaa.eng
open Go.RowKit kit mix gateL
set_option maxRecDepth 100000 in
theorem open_evsU {H : Type} {enc0 : TypeId × Value → H} {W : World} {base : Nat} {v : Value} {d : DataW H} {ps : List MemPlace} (hv : Value.okWide Try.prog W .any base 22 v) (h : DataW.Trod enc0 Try.prog W 0 (fun _ => true) true 22 v d ps) :
    ∃ l : List Ev, Sl W v l.length (l.flatMap evC) ∧ (∀ f ∈ l, okEv f) ∧ l.length ≤ Rows.uptoBulk d := by
  obtain ⟨l, h1, h2, h3⟩ := open_flat Try.underlying22 (c := 2) (by kernel_rfl) (by decide) evC (fun _ => rfl) okEv (fun n cs x hx => let ⟨f, e, h⟩ := opens_ev n cs x hx; ⟨f, e, h⟩) hv h
  refine ⟨l, h1, h2, ?_⟩
  rcases h3 with ⟨_, rfl⟩ | ⟨elems, spare, rfl, hl⟩
  · simp
  · have := bulk_len elems
    rw [Rows.uptoBulk]; omega
end Go.Proofs.Ytnooleopmlijeaa.eng
namespace Go.Proofs.Ytnooleopmlijeaa.gateOrder
open Go.RowKit kit mix gateL eng
theorem walk {H : Type} {d0 d1 d2 : DataW H} (w : World) (v0 : Value) (l : List Ev) (hs : Sl w v0 l.length (l.flatMap evC)) (_ : ∀ f ∈ l, okEv f) (h0 : l.length ≤ Rows.uptoBulk d0) (v1 : Value) (gs : List Int) (hs1 : Sl w v1 gs.length (gs.map (.int .i64))) (hok1 : ∀ c ∈ gs, kit.okI64 c) (h1 : gs.length ≤ Rows.uptoBulk d1)
    (v2 : Value) (ts : List Int) (hs2 : Sl w v2 ts.length (ts.map (.int .i64))) (hok2 : ∀ c ∈ ts, kit.okI64 c) (h2 : ts.length ≤ Rows.uptoBulk d2) (hk : Rows.uptoSmall H [d0, d1, d2] = true) : Calls Try.prog 8 #[v0, v1, v2] w (Meets (ret (.bool true)) w) := by
  have h := of_decide_eq_true hk
  simp only [Rows.uptoBulkAll] at h
  exact walkS w v0 l hs (by omega) v1 gs hs1 hok1 (by omega) v2 ts hs2 hok2 (by omega)
end Go.Proofs.Ytnooleopmlijeaa.gateOrder
