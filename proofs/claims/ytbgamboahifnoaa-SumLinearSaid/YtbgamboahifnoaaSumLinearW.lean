/- The walk of SumLinear. -/
import Derived.Test.YtbgamboahifnoaaSum
import Derived.Test.YtbgamboahifnoaaKit
import Derived.Test.YtbgamboahifnoaaMix
namespace Go.Proofs.Ytbgamboahifnoaa.sumLinear
open Go.RowKit sumL kit mix
theorem info5 : (Try.prog.info? 5).map (fun i => (i.zero, i.size, i.bytes)) = some (some (.int .u8 0), 1, 1) := by kernel_rfl

theorem xs3_snoc (a b c : ByteArray) (k : Nat) (h1 : k < a.size) (h2 : k < b.size) (h3 : k < c.size) :
    xs3 (a.data.toList.take (k + 1)) (b.data.toList.take (k + 1)) (c.data.toList.take (k + 1)) = xs3 (a.data.toList.take k) (b.data.toList.take k) (c.data.toList.take k) ++ [a[k] ^^^ b[k] ^^^ c[k]] := by
  rw [take_snoc a k h1, take_snoc b k h2, take_snoc c k h3]
  have e1 : k ≤ a.data.toList.length := by simp; omega
  have e2 : k ≤ b.data.toList.length := by simp; omega
  have e3 : k ≤ c.data.toList.length := by simp; omega
  unfold xs3
  rw [List.zip_append (by simp; omega), List.zip_append (by simp; omega), List.map_append]
  rfl
theorem xor8 (a b : UInt8) : bits .xor .u8 (a.toNat : Int) (b.toNat : Int) = ((a.toNat ^^^ b.toNat : Nat) : Int) := u8_xor_nat _ _ a.toNat_lt b.toNat_lt
theorem xor8' (a b c : UInt8) : bits .xor .u8 ((a.toNat ^^^ b.toNat : Nat) : Int) (c.toNat : Int) = ((a.toNat ^^^ b.toNat ^^^ c.toNat : Nat) : Int) := u8_xor_nat _ _ (Nat.xor_lt_two_pow (n := 8) a.toNat_lt b.toNat_lt) c.toNat_lt
attribute [local go_sem] xor8 xor8' xor32
set_option maxHeartbeats 400000 in
set_option linter.unusedVariables false in
theorem walk (a : ByteArray) (ha : a.size ≤ 140737488351232) (b : ByteArray) (hb : b.size ≤ 140737488351232) (c : ByteArray) (hc : c.size ≤ 140737488351232) (w : World) :
    Calls Try.prog 4 #[.string a, .string b, .string c] w fun e w' => e = .returned (.bool true) ∧ Below w.heap.size w w' := by
  go_enter Try.func4, Try.ntmps4
  go_upto_region 1 with (fail)
  go_cut [7] (fun s7 w' => w' = w ∧ ∃ n : Nat, s7 = .int .i64 n ∧ n ≤ a.size ∧ n ≤ b.size ∧ n ≤ c.size)
  case first =>
    go_wp2
    all_goals
      go_meet
      case rel => exact ⟨rfl, _, rfl, by omega, by omega, by omega⟩
  case rest =>
    obtain ⟨rfl, n, rfl, hn1, hn2, hn3⟩ := hcut
    obtain ⟨i0, hi, hz0, hz1, hz2⟩ := info_parts info5
    go_wp2_with fail
    go_loopw [8, 18] (fun v i w' => ∃ k : Nat, k ≤ n ∧ i = .int .i64 k ∧ w'.ownsRow wc.heap.size 5 1 v k ((xs3 (a.data.toList.take k) (b.data.toList.take k) (c.data.toList.take k)).map u8v) ∧ Below wc.heap.size wc w') (fun _ i _ => n - (intOf i).toNat)
    case atStart => exact ⟨0, Nat.zero_le _, rfl, World.ownsRow_nil _ _ _ _, Below.refl _ _⟩
    case round =>
      obtain ⟨k, hk, rfl, hown, hbel⟩ := hrel
      have hsz := hbel.size
      by_cases hlt : k < n
      · have h1 : k < a.size := by omega
        have h2 : k < b.size := by omega
        have h3 : k < c.size := by omega
        have HS := Lib.hid (xs3_snoc a b c k h1 h2 h3)
        go_wp2_with fail
        refine mix 13 (List.replicate 12 true ++ List.replicate 1 false) rfl (by kernel_rfl) (by kernel_rfl) (by intro c a d v w h; cases d <;> exact h) (Up wr.drew) (closed_up _) (Gr.refl _) ?_
        simp only [List.take_succ_cons, List.take_zero, List.drop_succ_cons, List.drop_zero, List.replicate, List.cons_append, List.nil_append]
        repeat (first
          | (refine wpM_val (by rfl) (fun w hSw => by go_simp; first | done | with_reducible rfl) ?_; simp only [Act.put, List.setIfInBounds_toArray, List.set_cons_zero, List.set_cons_succ])
          | (refine wpM_skip (by rfl) ?_; simp only [Act.put, List.setIfInBounds_toArray, List.set_cons_zero, List.set_cons_succ]))
        refine wpM_maker rfl (closed_up _) fun w hw _ K hK => ?_
        have hown0 : w.ownsRow wc.heap.size 5 1 u8 k _ := own_gr hown.drew hw
        have hbel0 : Below wc.heap.size wc w := below_gr hbel.drew hsz hw
        have hsz0 := hbel0.size
        clear hown hbel hsz hw
        go_simp
        refine hK _ _ ((Below.refl _ _).alloc (Nat.le_refl _) _) (wpM_end fun w1 hw1 => ?_)
        clear hK K
        have hown := own_gr (hown0.alloc _) hw1
        have hbel : Below wc.heap.size wc w1 := below_gr (hbel0.alloc hsz0 _) (by simp; omega) hw1
        have hsz := hbel.size
        have hblk := (hw1.block w.heap.size (by simp)).trans (heap_alloc_new w _)
        clear hown0 hbel0
        go_wp2_with (at_builtin; refine wpList_append1 rfl _ _ _ rfl 1 1 Try.underlying26 hi hz0 hz1 hz2 rfl (by decide) rfl hown rfl hblk rfl (by simp [Value.oneCell']) (by omega) (by omega) (by omega) ?_; intro v' w1 hown1 hgrow1)
        have hown2 : w1.ownsRow wc.heap.size 5 1 v' (k + 1) ((xs3 (a.data.toList.take (k + 1)) (b.data.toList.take (k + 1)) (c.data.toList.take (k + 1))).map u8v) := by
          rw [HS.out]; simpa [u8v] using hown1
        have hbel2 : Below wc.heap.size wc w1 := below_append hbel hown hgrow1 (by omega) (Nat.le_refl _)
        clear hown1 hgrow1
        go_wp2_with fail
        go_roundw
        case rel => exact ⟨k + 1, by omega, by go_num, hown2, hbel2⟩
        case measure => simp [intOf]; omega
      · obtain rfl : k = n := by omega
        have hconv : ∀ w', Up wr.drew w' → (convert 26 9 u8).run Try.prog w' = .ok (.string ⟨(xs3 (a.data.toList.take k) (b.data.toList.take k) (c.data.toList.take k)).toArray⟩) w' := fun w' h =>
          run_own_string Try.underlying26 Try.underlying5 Try.underlying9 (own_gr hown.drew h)
        have hlin := more_xs3 (a.data.toList.take k) (b.data.toList.take k) (c.data.toList.take k) (by simp; omega) (by simp; omega)
        have hlen : (xs3 (a.data.toList.take k) (b.data.toList.take k) (c.data.toList.take k)).length ≤ 140737488351232 := by simp [xs3]; omega
        have hd : (n32 (crc (xs3 (a.data.toList.take k) (b.data.toList.take k) (c.data.toList.take k))) == n32 (crc (a.data.toList.take k) ^^^ crc (b.data.toList.take k) ^^^ crc (c.data.toList.take k))) = true := by rw [hlin]; simp
        have ha := known_a
        clear hlin
        go_wp2_with fail
        refine mix 22 (List.replicate 22 true) rfl (by kernel_rfl) (by kernel_rfl) (by intro c a d v w h; cases d <;> exact h) (Up wr.drew) (closed_up _) (Gr.refl _) ?_
        simp only [List.take_succ_cons, List.take_zero, List.drop_succ_cons, List.drop_zero, List.replicate]
        repeat (first
          | (refine wpM_val (by rfl) (fun w hSw => by go_simp; first | done | with_reducible rfl) ?_; simp only [Act.put, List.setIfInBounds_toArray, List.set_cons_zero, List.set_cons_succ])
          | (refine wpM_skip (by rfl) ?_; simp only [Act.put, List.setIfInBounds_toArray, List.set_cons_zero, List.set_cons_succ])
          | (refine wpM_call (by rfl) (fun w => by go_simp; first | done | exact ⟨rfl, rfl⟩) (by intro w hSw; exact gr_same (sum_calls _ _ (le_max (by decide)))) ?_; simp only [Act.put, List.setIfInBounds_toArray, List.set_cons_zero, List.set_cons_succ])
          | (refine wpM_call (by rfl) (fun w => by go_simp; first | done | exact ⟨rfl, rfl⟩) (by intro w hSw; exact gr_same (sum_calls _ _ (le_max_list (by omega)))) ?_; simp only [Act.put, List.setIfInBounds_toArray, List.set_cons_zero, List.set_cons_succ])
          | (refine wpM_call (by rfl) (fun w => by go_simp; first | done | exact ⟨rfl, rfl⟩) (by intro w hSw; exact gr_same (sum_calls _ _ (le_max (by simp; omega)))) ?_; simp only [Act.put, List.setIfInBounds_toArray, List.set_cons_zero, List.set_cons_succ]))
        refine wpM_end fun w hw => ?_
        have hbel0 : Below wc.heap.size wc w := below_gr hbel.drew hsz hw
        clear hown hbel hsz hw
        go_wp2
        go_ret
        exact ⟨rfl, hbel0⟩
end Go.Proofs.Ytbgamboahifnoaa.sumLinear
