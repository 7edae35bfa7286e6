/- Arguments opened in the new way's words; from a walk to the row. -/
import Derived.Test.YtnicebdkejkieaaOpen
import Derived.Test.YtnicebdkejkieaaTy
namespace Go.Proofs.Ytnicebdkejkieaa.eng
open Go.RowKit kit mix
theorem u64_of {a : Int} (h : (Lit.int .u64 a).wf = true) : ∃ n : Nat, a = n ∧ n < 18446744073709551616 := by
  have : 0 ≤ a ∧ a ≤ 18446744073709551615 := by simpa [Lit.wf, IntKind.min, IntKind.max, IntKind.signed, IntKind.bits] using h
  exact ⟨a.toNat, by omega, by omega⟩
theorem u32_of {a : Int} (h : (Lit.int .u32 a).wf = true) : ∃ n : Nat, a = n ∧ n < 4294967296 := by
  have : 0 ≤ a ∧ a ≤ 4294967295 := by simpa [Lit.wf, IntKind.min, IntKind.max, IntKind.signed, IntKind.bits] using h
  exact ⟨a.toNat, by omega, by omega⟩
theorem u8_of {a : Int} (h : (Lit.int .u8 a).wf = true) : ∃ b : UInt8, a = (b.toNat : Int) := by
  have : 0 ≤ a ∧ a ≤ 255 := by simpa [Lit.wf, IntKind.min, IntKind.max, IntKind.signed, IntKind.bits] using h
  refine ⟨UInt8.ofNat a.toNat, ?_⟩
  simp; omega
theorem strs_of {w : World} {v : Value} {l : List ByteArray} (h : Sl w v l.length (l.map .string)) (hl : ∀ s ∈ l, s.size ≤ maxLen) : ∃ L : List (List UInt8), Sl w v L.length (L.map str) ∧ (∀ x ∈ L, x.length ≤ 9223372036854775807) ∧ L.length = l.length :=
  ⟨l.map (·.data.toList), by
    have e : (l.map (·.data.toList)).map str = l.map .string := by rw [List.map_map]; apply List.map_congr_left; intro s _; exact (str_of s).symm
    rw [e, List.length_map]; exact h,
   fun x hx => by
    obtain ⟨s, hs, rfl⟩ := List.mem_map.1 hx
    have := hl s hs
    unfold maxLen at this
    have e : s.data.toList.length = s.size := Array.length_toList
    omega, by simp⟩
theorem fin {P : Program} {f : FuncId} {args : Array Value} {w : World} (h : Calls P f args w (Meets (ret (.bool true)) w)) : Calls P f args w fun e w' => e = .returned (.bool true) ∧ Below w.heap.size w w' := h.mono fun _ _ h => of_meets h
end Go.Proofs.Ytnicebdkejkieaa.eng
