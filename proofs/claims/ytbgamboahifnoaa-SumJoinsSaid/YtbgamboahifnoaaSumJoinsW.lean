/- The walk of SumJoins. -/
import Derived.Test.YtbgamboahifnoaaSum
import Derived.Test.YtbgamboahifnoaaKit
namespace Go.Proofs.Ytbgamboahifnoaa.sumJoins
open Go.RowKit sumL kit
theorem joins (a b c : ByteArray) : (n32 (more (more (crc a.data.toList) b.data.toList) c.data.toList) == n32 (crc (a.data.toList ++ (b.data.toList ++ c.data.toList)))) = true := by
  rw [crc_more, crc_more]; simp
set_option maxHeartbeats 400000 in
theorem walk (a : ByteArray) (ha : a.size ≤ 140737488351232) (b : ByteArray) (hb : b.size ≤ 140737488351232) (c : ByteArray) (hc : c.size ≤ 140737488351232) (w : World) :
    Calls Try.prog 3 #[.string a, .string b, .string c] w fun e w' => e = .returned (.bool true) ∧ Below w.heap.size w w' := by
  have h1 := joins a b c
  have h3 := known
  go_enter Try.func3, Try.ntmps3
  go_wp2_with fail
  all_goals
    refine (sum_calls _ _ (le_max (by decide))).mono ?_
    rintro e w' ⟨rfl, rfl⟩
    go_wp2_with fail
    clear h3
    refine (sum_calls _ _ (le_max (by omega))).mono ?_
    rintro e w' ⟨rfl, rfl⟩
    go_wp2_with fail
    refine (more_calls _ _ _ (le_max (by omega))).mono ?_
    rintro e w' ⟨rfl, rfl⟩
    go_wp2_with fail
    refine (more_calls _ _ _ (le_max (by omega))).mono ?_
    rintro e w' ⟨rfl, rfl⟩
    go_wp2_with fail
    refine (sum_calls _ _ (le_max (by simp; omega))).mono ?_
    rintro e w' ⟨rfl, rfl⟩
    go_wp2_with fail
    refine (more0_calls _ _ (le_max (by omega))).mono ?_
    rintro e w' ⟨rfl, rfl⟩
    go_wp2_with fail
    refine (sum_calls _ _ (le_max (by omega))).mono ?_
    rintro e w' ⟨rfl, rfl⟩
    go_wp2_with fail
    go_ret
    exact ⟨rfl, Below.refl _ _⟩
end Go.Proofs.Ytbgamboahifnoaa.sumJoins
