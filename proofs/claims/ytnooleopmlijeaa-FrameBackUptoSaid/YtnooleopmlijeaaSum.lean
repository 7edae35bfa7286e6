/- What sum.More and sum.Sum compute. -/
import Derived.Test.YtnooleopmlijeaaRows
import Derived.Test.YtnooleopmlijeaaSumL
import Derived.WalkKit
import Derived.WalkSpells
import Derived.WalkLawsBesides
import Derived.Lib.Hide
namespace Go.Proofs.Ytnooleopmlijeaa
open Go.RowKit sumL
attribute [local go_sem] not32m xor32 and32 one32 poly32 neg32 neg32' shr32 byte32 byte32'

set_option maxHeartbeats 400000 in
theorem more_calls (x : BitVec 32) (s : ByteArray) (w : World) (hs : s.size ≤ maxLen) :
    Calls Try.prog 64 #[.int .u32 (n32 x), .string s] w fun e w' => e = .returned (.int .u32 (n32 (more x s.data.toList))) ∧ w = w' := by
  unfold maxLen at hs
  go_enter Try.func64, Try.ntmps64
  go_wp2
  go_loop [5, 6] (fun r i => ∃ k : Nat, k ≤ s.size ∧ i = .int .i64 k ∧ r = .int .u32 (n32 (roll (~~~ x) (s.data.toList.take k)))) (fun _ i => s.size - (intOf i).toNat)
  case atStart => exact ⟨0, Nat.zero_le _, rfl, rfl⟩
  case round =>
    obtain ⟨k, hk, rfl, rfl⟩ := hrel
    by_cases hlt : k < s.size
    · have hr := roll_snoc (~~~ x) (s.data.toList.take k) s[k]
      rw [← take_snoc s k hlt] at hr
      have HR := Lib.hid hr
      clear hr
      generalize roll (~~~ x) (s.data.toList.take k) = r at *
      go_wp2
      go_loop [5, 22] (fun r' j => ∃ m : Nat, m ≤ 8 ∧ j = .int .i64 m ∧ r' = .int .u32 (n32 (bits8 (r ^^^ BitVec.ofNat 32 s[k].toNat) m))) (fun _ j => 8 - (intOf j).toNat)
      case atStart => exact ⟨0, by omega, rfl, rfl⟩
      case round =>
        obtain ⟨m, hm, rfl, rfl⟩ := hrel
        by_cases hm8 : m < 8
        · go_wp2
          go_round
          case rel => exact ⟨m + 1, by omega, by go_num, rfl⟩
          case measure => simp [intOf]; omega
        · obtain rfl : m = 8 := by omega
          go_wp2
          go_round
          case rel => exact ⟨k + 1, by omega, by go_num, by rw [HR.out]; rfl⟩
          case measure => simp [intOf]; omega
    · go_wp2
      go_ret
      rw [more_end x s.data.toList k (Nat.le_of_not_lt hlt)]
      exact ⟨rfl, rfl⟩

theorem more0_calls (s : ByteArray) (w : World) (hs : s.size ≤ maxLen) :
    Calls Try.prog 64 #[.int .u32 0, .string s] w fun e w' => e = .returned (.int .u32 (n32 (crc s.data.toList))) ∧ w = w' := more_calls 0 s w hs

theorem sum_calls (s : ByteArray) (w : World) (hs : s.size ≤ maxLen) :
    Calls Try.prog 47 #[.string s] w fun e w' => e = .returned (.int .u32 (n32 (crc s.data.toList))) ∧ w = w' := by
  have hm := Lib.hid (fun w => more_calls 0 s w hs)
  go_enter Try.func47, Try.ntmps47
  go_wp2_with fail
  refine (hm.out _).mono ?_
  rintro e w' ⟨rfl, rfl⟩
  go_wp2
  go_ret
  exact ⟨rfl, rfl⟩
end Go.Proofs.Ytnooleopmlijeaa
