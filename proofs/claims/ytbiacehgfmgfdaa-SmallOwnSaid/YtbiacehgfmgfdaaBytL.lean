/- Bytes as cells of a row. -/
import Derived.Test.YtbiacehgfmgfdaaMgB
namespace Go.Proofs.Ytbiacehgfmgfdaa.eng
open Go.RowKit kit mix
def u8L (b : UInt8) : List Value := [u8v b]
theorem u8L_flat (l : List UInt8) : l.flatMap u8L = l.map u8v := by
  induction l with
  | nil => rfl
  | cons b l ih => rw [List.flatMap_cons, ih]; rfl
theorem u8L_one (l : List UInt8) : ∀ u ∈ l.flatMap u8L, u.oneCell' = true := by
  intro u hu
  rw [u8L_flat] at hu
  obtain ⟨b, _, rfl⟩ := List.mem_map.1 hu
  rfl
end Go.Proofs.Ytbiacehgfmgfdaa.eng
