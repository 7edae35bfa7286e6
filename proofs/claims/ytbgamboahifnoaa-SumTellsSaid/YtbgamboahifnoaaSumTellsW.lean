/- The walk of SumTells. -/
import Derived.Test.YtbgamboahifnoaaSum
import Derived.Test.YtbgamboahifnoaaSumT
import Derived.Test.YtbgamboahifnoaaRest
import Derived.Test.YtbgamboahifnoaaMix
namespace Go.Proofs.Ytbgamboahifnoaa.sumTells
open Go.RowKit sumL kit mix
theorem known_0 : n32 (crc []) = 0 := by decide +kernel
theorem known_b : n32 (crc [98]) = 1908338681 := by decide +kernel
theorem wide_small (b k : Nat) (hb : b < 4294967296) : 2 ^ (k % 8) * b < 549755813888 := by
  have hp : 2 ^ (k % 8) ≤ 2 ^ 7 := Nat.pow_le_pow_right (by decide) (by omega)
  have : 2 ^ (k % 8) * b ≤ 2 ^ 7 * b := Nat.mul_le_mul_right _ hp
  omega
theorem wide_lt (b k : Nat) (hb : b < 4294967296) : IntKind.u64.wrap ((b : Int) * 2 ^ (k % 8)) = ((2 ^ (k % 8) * b : Nat) : Int) := by
  have h := wide_small b k hb
  have e : (b : Int) * 2 ^ (k % 8) = ((2 ^ (k % 8) * b : Nat) : Int) := by rw [Nat.mul_comm]; simp
  rw [e, IntKind.wrap_u64]
  omega
theorem xorv (x : UInt8) (W i : Nat) : bits BinOp.xor IntKind.u8 (x.toNat : Int) ((W : Int) / 2 ^ (8 * i) % 256) = ((x ^^^ UInt8.ofNat (W / 256 ^ i)).toNat : Int) := by
  have e : (W : Int) / 2 ^ (8 * i) % 256 = ((W / 256 ^ i % 256 : Nat) : Int) := by
    rw [show (256 : Nat) ^ i = 2 ^ (8 * i) by rw [Nat.pow_mul]]
    rw [Int.natCast_emod, Int.natCast_ediv, Int.natCast_pow]
    rfl
  rw [e, u8_xor_nat _ _ x.toNat_lt (Nat.mod_lt _ (by decide)), UInt8.toNat_xor]
  rfl
theorem turned_cells (l : List UInt8) (p W i : Nat) (h : p + i < (turn l p W i).length) :
    ((turn l p W i).map u8v).set (p + i) (.int .u8 (bits BinOp.xor IntKind.u8 (((turn l p W i)[p + i]).toNat : Int) ((W : Int) / 2 ^ (8 * i) % 256))) = (turn l p W (i + 1)).map u8v := by
  rw [xorv, turn, List.map_set, List.getD_eq_getElem?_getD, List.getElem?_eq_getElem h]
  rfl
set_option maxHeartbeats 400000 in
theorem walk (s : ByteArray) (hs : s.size ≤ 140737488351232) (at_ : Int) (wa : (Lit.int .i64 at_).wf = true) (b : Int) (wb : (Lit.int .u32 b).wf = true) (w : World) :
    Calls Try.prog 5 #[.string s, .int .i64 at_, .int .u32 b] w fun e w' => e = .returned (.bool true) ∧ Below w.heap.size w w' := by
  have ha : -9223372036854775808 ≤ at_ ∧ at_ ≤ 9223372036854775807 := by simpa [Lit.wf, IntKind.min, IntKind.max, IntKind.signed, IntKind.bits] using wa
  have hb : 0 ≤ b ∧ b ≤ 4294967295 := by simpa [Lit.wf, IntKind.min, IntKind.max, IntKind.signed, IntKind.bits] using wb
  obtain ⟨ha0, ha1⟩ := ha
  obtain ⟨hb0, hb1⟩ := hb
  clear wa wb
  have k0 := known_0
  have ka := known_a
  have kb := known_b
  go_enter Try.func5, Try.ntmps5
  go_wp2_with fail
  refine (sum_calls _ _ (le_max (by decide))).mono ?_
  rintro e w' ⟨rfl, rfl⟩
  go_wp2_with fail
  refine (sum_calls _ _ (le_max (by decide))).mono ?_
  rintro e w' ⟨rfl, rfl⟩
  go_wp2_with fail
  refine (sum_calls _ _ (le_max (by decide))).mono ?_
  rintro e w' ⟨rfl, rfl⟩
  clear k0 ka kb
  by_cases h5 : s.size < 5
  · go_wp2_with fail
    all_goals
      go_ret
      exact ⟨rfl, Below.refl _ _⟩
  by_cases hz : b = 0
  · subst hz
    go_wp2_with fail
    all_goals
      go_ret
      exact ⟨rfl, Below.refl _ _⟩
  have hz' : (b == 0) = false := by simpa using hz
  go_wp2_with fail
  refine (rest_calls _ _ _ ha0 ha1 (by omega) (by omega)).mono ?_
  rintro e w' ⟨rfl, rfl⟩
  have r1 := Int.emod_nonneg at_ (show 8 * ((s.size : Int) - 4) ≠ 0 by omega)
  have r2 := Int.emod_lt_of_pos at_ (show 0 < 8 * ((s.size : Int) - 4) by omega)
  generalize at_ % (8 * ((s.size : Int) - 4)) = K at *
  obtain ⟨k, rfl⟩ := Int.eq_ofNat_of_zero_le r1
  obtain ⟨bn, rfl⟩ := Int.eq_ofNat_of_zero_le hb0
  obtain ⟨cap, w1, hconv, hbel, hlt, hcap, hwr⟩ := conv_bytes (P := Try.prog) Try.underlying9 Try.underlying26 Try.underlying5 w s
  go_wp2_with fail
  have hW : IntKind.u64.wrap ((bn : Int) * 2 ^ (k % 8)) = ((2 ^ (k % 8) * bn : Nat) : Int) := wide_lt bn k (by omega)
  rw [hW]
  have hlt2 := wide_small bn k (by omega)
  have htell := Lib.hid (tells_turn s.data.toList k bn (by omega) (by omega) (by simp; omega))
  clear hW hz hz'
  generalize 2 ^ (k % 8) * bn = W at *
  have hp : k / 8 + 5 ≤ s.size := by omega
  obtain ⟨p, hpk⟩ : ∃ p, p = k / 8 := ⟨_, rfl⟩
  go_loopw [38] (fun c w' => ∃ i : Nat, i ≤ 5 ∧ c = .int .i64 i ∧ Below w.heap.size w w' ∧ w.heap.size < w'.heap.size ∧ Wr w' w.heap.size 0 ((turn s.data.toList (k / 8) W i).map u8v)) (fun c _ => 5 - (intOf c).toNat)
  case atStart => exact ⟨0, by omega, rfl, hbel, hlt, hwr⟩
  case round =>
    obtain ⟨i, hi, rfl, hb1, hlt1, hw1⟩ := hrel
    clear hbel hlt hwr hconv
    by_cases hi5 : i < 5
    · have hlen : k / 8 + i < (turn s.data.toList (k / 8) W i).length := by rw [turn_length]; simp; omega
      have hld : ∀ w', Up wr.drew w' → w'.cell? ⟨w.heap.size, k / 8 + i, none⟩ = some (.int .u8 (((turn s.data.toList (k / 8) W i)[k / 8 + i]).toNat : Int)) := fun w' hw => by
        have := ((hw1.gr (Gr.drew wr)).gr hw).at (k / 8 + i) (by simpa using hlen)
        rw [Nat.zero_add] at this
        rw [this.1]; simp [u8v]
      go_wp2_with fail
      refine mix 14 (List.replicate 14 true) rfl (by kernel_rfl) (by kernel_rfl) (by intro c a d v w h; cases d <;> exact h) (Up wr.drew) (closed_up _) (Gr.refl _) ?_
      simp only [List.take_succ_cons, List.take_zero, List.drop_succ_cons, List.drop_zero, List.replicate]
      repeat (first
        | (refine wpM_val (by rfl) (fun w hSw => by go_simp; (try (simp only [↓IntWalk.iteOmega]; try go_simp)); (try go_bits); first | done | with_reducible rfl) ?_; simp only [Act.put, List.setIfInBounds_toArray, List.set_cons_zero, List.set_cons_succ])
        | (refine wpM_skip (by rfl) ?_; simp only [Act.put, List.setIfInBounds_toArray, List.set_cons_zero, List.set_cons_succ]))
      refine wpM_end fun w2 hw2 => ?_
      have hb2 : Below w.heap.size w w2 := below_gr hb1.drew (by simp; omega) hw2
      have hw3 := (hw1.gr (Gr.drew wr)).gr hw2
      have hlt2 : w.heap.size < w2.heap.size := Nat.lt_of_lt_of_le hlt1 hw2.size
      have hc2 := hw3.at (k / 8 + i) (by simpa using hlen)
      have hset := hw3.set (k / 8 + i) (by simpa using hlen) (.int .u8 (bits BinOp.xor IntKind.u8 (((turn s.data.toList (k / 8) W i)[k / 8 + i]).toNat : Int) ((W : Int) / 2 ^ (8 * i) % 256)))
      rw [Nat.zero_add] at hc2 hset
      obtain ⟨hc3, hc4⟩ := hc2
      have HS := Lib.hid hset
      clear hld hw1 hb1 hw2 hset hw3
      go_wp2_with fail
      go_roundw
      case rel =>
        refine ⟨i + 1, by omega, by go_num, hb2.setCell (Nat.le_refl _) _, by simpa [World.setCell] using hlt2, ?_⟩
        have h := HS.out
        rw [turned_cells] at h
        exact h
      case measure => simp [intOf]; omega
    · obtain rfl : i = 5 := by omega
      have hlen : s.size = (turn s.data.toList (k / 8) W 5).length := by rw [turn_length]; simp
      have hconv : ∀ w', Up wr.drew w' → (convert 26 9 (.slice (some ⟨w.heap.size, 0, none⟩) s.size cap)).run Try.prog w' = .ok (.string ⟨(turn s.data.toList (k / 8) W 5).toArray⟩) w' := fun w' hw =>
        conv_string Try.underlying26 Try.underlying5 Try.underlying9 hlen ((hw1.gr (Gr.drew wr)).gr hw).rd
      have hne : (n32 (crc s.data.toList) != n32 (crc (turn s.data.toList (k / 8) W 5))) = true := by
        rw [bne_iff_ne]; exact fun h => htell.out (n32_inj h)
      have hle : (turn s.data.toList (k / 8) W 5).length ≤ 140737488351232 := by omega
      clear hlen
      go_wp2_with fail
      refine mix 6 (List.replicate 6 true) rfl (by kernel_rfl) (by kernel_rfl) (by intro c a d v w h; cases d <;> exact h) (Up wr.drew) (closed_up _) (Gr.refl _) ?_
      simp only [List.take_succ_cons, List.take_zero, List.drop_succ_cons, List.drop_zero, List.replicate]
      repeat (first
        | (refine wpM_val (by rfl) (fun w hSw => by go_simp; (try (simp only [↓IntWalk.iteOmega]; try go_simp)); (try go_bits); first | done | with_reducible rfl) ?_; simp only [Act.put, List.setIfInBounds_toArray, List.set_cons_zero, List.set_cons_succ])
        | (refine wpM_skip (by rfl) ?_; simp only [Act.put, List.setIfInBounds_toArray, List.set_cons_zero, List.set_cons_succ])
        | (refine wpM_call (by rfl) (fun w => by go_simp; first | done | exact ⟨rfl, rfl⟩) (by intro w hSw; exact gr_same (sum_calls _ _ (le_max (by omega)))) ?_; simp only [Act.put, List.setIfInBounds_toArray, List.set_cons_zero, List.set_cons_succ])
        | (refine wpM_call (by rfl) (fun w => by go_simp; first | done | exact ⟨rfl, rfl⟩) (by intro w hSw; exact gr_same (sum_calls _ _ (le_max_list (by omega)))) ?_; simp only [Act.put, List.setIfInBounds_toArray, List.set_cons_zero, List.set_cons_succ]))
      refine wpM_end fun w2 hw2 => ?_
      have hb2 : Below w.heap.size w w2 := below_gr hb1.drew (by simp; omega) hw2
      clear hw1 hb1 hw2 hconv
      go_wp2
      go_ret
      exact ⟨rfl, hb2⟩
end Go.Proofs.Ytbgamboahifnoaa.sumTells
