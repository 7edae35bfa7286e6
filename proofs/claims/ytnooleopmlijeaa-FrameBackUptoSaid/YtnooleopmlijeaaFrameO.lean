/- Frames that came in, opened. -/
import Derived.Test.YtnooleopmlijeaaRead
import Derived.Test.YtnooleopmlijeaaFrame
namespace Go.Proofs.Ytnooleopmlijeaa.eng
open Go.RowKit kit mix frameL
set_option maxRecDepth 100000
def isFr (cs : List Value) (f : Fm) : Prop := cs = frC f ∧ (-9223372036854775808 ≤ f.1 ∧ f.1 ≤ 9223372036854775807) ∧ (-9223372036854775808 ≤ f.2.1 ∧ f.2.1 ≤ 9223372036854775807) ∧ f.2.2.length ≤ 9223372036854775807
theorem opens_fr {H : Type} {enc0 : TypeId × Value → H} {W : World} : Opens enc0 Try.prog W 43 isFr := fun fuel cs x h => by
  obtain ⟨hl, hfs⟩ := field_of Try.underlying43 h
  have hl3 : cs.length = 3 := hl
  obtain ⟨k, e0, k1, k2⟩ := hfs 0 _ rfl (opens_i64 Try.underlying3)
  obtain ⟨q, e1, q1, q2⟩ := hfs 1 _ rfl (opens_i64 Try.underlying3)
  obtain ⟨b, e2, b1⟩ := hfs 2 _ rfl (opens_str Try.underlying9)
  replace e0 : (cs.drop 0).take 1 = [.int .i64 k] := e0
  replace e1 : (cs.drop 1).take 1 = [.int .i64 q] := e1
  replace e2 : (cs.drop 2).take 1 = [str b] := e2
  refine ⟨(k, q, b), ?_, ⟨k1, k2⟩, ⟨q1, q2⟩, b1⟩
  match cs, hl3 with
  | [x, y, z], _ =>
    simp only [List.drop_succ_cons, List.drop_zero, List.take_succ_cons, List.take_zero, List.cons.injEq, and_true] at e0 e1 e2
    subst e0 e1 e2
    rfl
/-- a frame by value -/
def IsFr (v : Value) (f : Fm) : Prop := v = frV f ∧ isFr (frC f) f
theorem open_frame {H : Type} {enc0 : TypeId × Value → H} {W : World} {base : Nat} {v : Value} {d : DataW H} {ps : List MemPlace} (hv : Value.okWide Try.prog W .any base 43 v) (h : DataW.Trod enc0 Try.prog W 0 (fun _ => true) true 43 v d ps) : ∃ f, IsFr v f := by
  obtain ⟨cs, fuel, rfl, hf⟩ := top_agg Try.underlying43 hv h
  obtain ⟨f, h1, h2⟩ := opens_fr fuel cs.toList _ hf
  refine ⟨f, ?_, rfl, h2⟩
  rw [← Array.toArray_toList (xs := cs), h1]; rfl
def okFr (f : Fm) : Prop := (-9223372036854775808 ≤ f.1 ∧ f.1 ≤ 9223372036854775807) ∧ (-9223372036854775808 ≤ f.2.1 ∧ f.2.1 ≤ 9223372036854775807) ∧ f.2.2.length ≤ 9223372036854775807
/-- a slice of frames -/
theorem open_frs {H : Type} {enc0 : TypeId × Value → H} {W : World} {base : Nat} {v : Value} {d : DataW H} {ps : List MemPlace} (hv : Value.okWide Try.prog W .any base 40 v) (h : DataW.Trod enc0 Try.prog W 0 (fun _ => true) true 40 v d ps) {ts : List TypeId} {ds : List (DataW H)} (hsz : (DataW.weightsEach Try.prog ts ds).all (· ≤ reachBytes) = true) (j : Nat) (hj : ts[j]? = some 40) (hd : ds[j]? = some d) :
    ∃ l : List Fm, Sl W v l.length (l.flatMap frC) ∧ (∀ f ∈ l, okFr f) ∧ l.length * 32 ≤ 140737488351232 := by
  obtain ⟨l, h1, h2, h3⟩ := open_flat Try.underlying40 (c := 3) (by kernel_rfl) (by decide) frC (fun _ => rfl) okFr (fun n cs x hx => let ⟨f, e, h⟩ := opens_fr n cs x hx; ⟨f, e, h⟩) hv h
  exact ⟨l, h1, h2, size_flat (n := l.length) hsz hj hd Try.underlying40 (by kernel_rfl) (by rcases h3 with ⟨h, rfl⟩ | h; exact .inl ⟨h, rfl⟩; exact .inr h)⟩
end Go.Proofs.Ytnooleopmlijeaa.eng
