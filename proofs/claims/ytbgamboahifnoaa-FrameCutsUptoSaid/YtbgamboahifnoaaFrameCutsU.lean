/- FrameCuts of what is small. -/
import Derived.Test.YtbgamboahifnoaaFrameCutsW
import Derived.Test.YtbgamboahifnoaaOpen
import Derived.Test.YtbgamboahifnoaaRead
import Derived.Test.YtbgamboahifnoaaRows
namespace Go.Proofs.Ytbgamboahifnoaa.eng
open Go.RowKit kit mix
theorem bulk_pos {H : Type} (d : DataW H) : 1 ≤ Rows.uptoBulk d := by
  unfold Rows.uptoBulk
  split <;> omega
theorem bulk_len {H : Type} : ∀ (ds : List (DataW H)), ds.length ≤ Rows.uptoBulkAll ds
  | [] => by simp
  | d :: r => by
    have := bulk_len r
    have := bulk_pos d
    rw [Rows.uptoBulkAll, List.length_cons]; omega
set_option maxRecDepth 100000 in
theorem open_intsU {H : Type} {enc0 : TypeId × Value → H} {W : World} {base : Nat} {v : Value} {d : DataW H} {ps : List MemPlace} (hv : Value.okWide Try.prog W .any base 41 v) (h : DataW.Trod enc0 Try.prog W 0 (fun _ => true) true 41 v d ps) :
    ∃ l : List Int, Sl W v l.length (l.map (.int .i64)) ∧ (∀ f ∈ l, kit.okI64 f) ∧ l.length ≤ Rows.uptoBulk d := by
  obtain ⟨l, h1, h2, h3⟩ := open_flat Try.underlying41 (c := 1) (by kernel_rfl) (by decide) intC (fun _ => rfl) kit.okI64 (fun n cs x hx => let ⟨a, e, h⟩ := opens_i64 Try.underlying3 n cs x hx; ⟨a, e, h⟩) hv h
  refine ⟨l, by rw [← flat1]; exact h1, h2, ?_⟩
  rcases h3 with ⟨_, rfl⟩ | ⟨elems, spare, rfl, hl⟩
  · simp
  · have := bulk_len elems
    rw [Rows.uptoBulk]; omega
end Go.Proofs.Ytbgamboahifnoaa.eng
namespace Go.Proofs.Ytbgamboahifnoaa.frameCuts
open Go.RowKit kit mix frameL eng
theorem walk {H : Type} {d : DataW H} (w : World) (s : List UInt8) (_ : s.length ≤ 140737488351232) (vc : Value) (cs : List Int) (hv : Sl w vc cs.length (cs.map (.int .i64))) (hok : ∀ c ∈ cs, kit.okI64 c) (hn : cs.length ≤ Rows.uptoBulk d) (hk : Rows.uptoSmall H [.lit (.string s), d] = true) : Calls Try.prog 13 #[str s, vc] w (Meets (ret (.bool true)) w) := by
  have h := of_decide_eq_true hk
  simp only [Rows.uptoBulkAll] at h
  rw [Rows.uptoBulk] at h
  exact walkS w s (by omega) vc cs hv hok (by omega)
end Go.Proofs.Ytbgamboahifnoaa.frameCuts
