/- Slices of bounded bulk, opened. -/
import Derived.Test.YtnooleopmlijeaaOpenE
import Derived.Test.YtnooleopmlijeaaRead
import Derived.Test.YtnooleopmlijeaaRows
namespace Go.Proofs.Ytnooleopmlijeaa.eng
open Go.RowKit kit mix
theorem bulk_pos {H : Type} (d : DataW H) : 1 ≤ Rows.uptoBulk d := by
  unfold Rows.uptoBulk
  split <;> omega
theorem bulk_len {H : Type} : ∀ (ds : List (DataW H)), ds.length ≤ Rows.uptoBulkAll ds
  | [] => by simp
  | d :: r => by
    have := bulk_len r
    have := bulk_pos d
    rw [Rows.uptoBulkAll, List.length_cons]; omega
set_option maxRecDepth 100000 in
theorem open_intsU {H : Type} {enc0 : TypeId × Value → H} {W : World} {base : Nat} {v : Value} {d : DataW H} {ps : List MemPlace} (hv : Value.okWide Try.prog W .any base 41 v) (h : DataW.Trod enc0 Try.prog W 0 (fun _ => true) true 41 v d ps) :
    ∃ l : List Int, Sl W v l.length (l.map (.int .i64)) ∧ (∀ f ∈ l, kit.okI64 f) ∧ l.length ≤ Rows.uptoBulk d := by
  obtain ⟨l, h1, h2, h3⟩ := open_flat Try.underlying41 (c := 1) (by kernel_rfl) (by decide) intC (fun _ => rfl) kit.okI64 (fun n cs x hx => let ⟨a, e, h⟩ := opens_i64 Try.underlying3 n cs x hx; ⟨a, e, h⟩) hv h
  refine ⟨l, by rw [← flat1]; exact h1, h2, ?_⟩
  rcases h3 with ⟨_, rfl⟩ | ⟨elems, spare, rfl, hl⟩
  · simp
  · have := bulk_len elems
    rw [Rows.uptoBulk]; omega
end Go.Proofs.Ytnooleopmlijeaa.eng
