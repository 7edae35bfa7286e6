/- What pack.ReadNum computes. -/
import Derived.Test.YtnooleopmlijeaaPack
namespace Go.Proofs.Ytnooleopmlijeaa.eng
open Go.RowKit kit mix packL
set_option maxHeartbeats 2000000 in
theorem readNum_calls (s : List UInt8) (w : World) (hs : s.length ≤ 9223372036854775807) :
    Calls Try.prog 15 #[str s] w (Meets (ret (triV (readF s))) w) := by
  refine enter (args := [str s]) (n := 55) Try.func15 rfl rfl rfl ?_
  repeat (first
    | refine TL_val (rr_move rfl) rfl rfl rfl ?_
    | refine TL_val (rr_assign rfl) rfl rfl rfl ?_
    | refine TL_nil ?_
    | refine T_seq ?_
    | refine T_region ?_
    | refine T_condT rfl ?_
    | refine T_condF rfl ?_
    | refine T_skip ?_
    | refine T_exit ?_
    | refine T_ret ?_
    | refine T_block ?_
    | refine E_then ?_
    | refine E_thenX ?_
    | refine E_thenR ?_
    | refine E_blockN ?_
    | refine E_blockR ?_
    | refine E_blockX ?_
    | refine E_blockO rfl ?_
    | refine TL_val (rr_pickT rfl rfl) rfl rfl rfl ?_
    | refine TL_val (rr_pickF rfl rfl) rfl rfl rfl ?_
    | refine TL_val (rr_strlen Und.eq rfl) rfl rfl rfl ?_
    | refine TL_val (rr_lss rfl rfl (decide_eq_true (by omega))) rfl rfl rfl ?_
    | refine TL_val (rr_lss rfl rfl (decide_eq_false (by omega))) rfl rfl rfl ?_
    | refine TL_val (rr_geq rfl rfl (decide_eq_true (by omega))) rfl rfl rfl ?_
    | refine TL_val (rr_geq rfl rfl (decide_eq_false (by omega))) rfl rfl rfl ?_
    | refine TL_val (rr_eql rfl rfl (decide_eq_true (by omega))) rfl rfl rfl ?_
    | refine TL_val (rr_eql rfl rfl (decide_eq_false (by omega))) rfl rfl rfl ?_
    | refine TL_val (rr_add64 rfl rfl (by omega) (by omega) rfl) rfl rfl rfl ?_
    | refine TL_val (rr_mul64 rfl rfl (by omega) (by omega) rfl) rfl rfl rfl ?_
    | refine TL_skip rfl rfl rfl rfl rfl rfl ?_
    | refine TL_gval (rr_move rfl) rfl rfl rfl rfl rfl ?_
    | refine TL_gval (rr_pickT rfl rfl) rfl rfl rfl rfl rfl ?_
    | refine TL_gval (rr_pickF rfl rfl) rfl rfl rfl rfl rfl ?_
    | refine TL_gval (rr_lss rfl rfl (decide_eq_true (by omega))) rfl rfl rfl rfl rfl ?_
    | refine TL_gval (rr_lss rfl rfl (decide_eq_false (by omega))) rfl rfl rfl rfl rfl ?_
    | refine TL_gval (rr_gtr rfl rfl (decide_eq_true (by omega))) rfl rfl rfl rfl rfl ?_
    | refine TL_gval (rr_gtr rfl rfl (decide_eq_false (by omega))) rfl rfl rfl rfl rfl ?_
    | refine TL_gval (rr_eql rfl rfl (decide_eq_true (by omega))) rfl rfl rfl rfl rfl ?_
    | refine TL_gval (rr_eql rfl rfl (decide_eq_false (by omega))) rfl rfl rfl rfl rfl ?_)
  refine T_loop (ι := Nat × Nat) (fun (i, a) => readF s = readGo i a (s.drop i) ∧ i ≤ s.length ∧ i ≤ 10 ∧ a < 18446744073709551616 ∧ (i ≤ 9 → a < 128 ^ i)) (fun (i, a) => [(0, str s), (5, .int .u64 (a : Int)), (6, .int .i64 (i : Int))]) (fun _ => []) (fun (i, _) => 10 - i) (0, 0) ⟨rfl, by omega, by omega, by omega, by simp⟩ ⟨rfl, rfl, rfl, trivial⟩ rfl ?_
  rintro ⟨i, a⟩ ⟨h1, h2, h3, h4, h5⟩
  by_cases c1 : i < s.length
  · by_cases c2 : i < 10
    · obtain ⟨b, hb⟩ : ∃ b, s[i]? = some b := ⟨_, List.getElem?_eq_getElem c1⟩
      have hd : s.drop i = b :: s.drop (i + 1) := by rw [List.drop_eq_getElem_cons c1, (List.getElem?_eq_some_iff.1 hb).2]
      have ha := h5 (by omega)
      have hbl := b.toNat_lt
      rw [hd] at h1
      simp only [readGo] at h1
      rw [if_neg (by omega)] at h1
      have hor := or_add (a := a) (c := b.toNat % 128) (i := i) (by omega) ha
      have hsh := fun (w : World) => shl64 (P := Try.prog) (b.toNat % 128) i (by omega) w
      have hlt : (a + b.toNat % 128 * 128 ^ i) % 18446744073709551616 < 18446744073709551616 := Nat.mod_lt _ (by decide)
      have hnx : i + 1 ≤ 9 → (a + b.toNat % 128 * 128 ^ i) % 18446744073709551616 < 128 ^ (i + 1) := fun h => by
        have hp := pow_le9 h
        have : b.toNat % 128 * 128 ^ i ≤ 127 * 128 ^ i := Nat.mul_le_mul_right _ (by omega)
        have hl : a + b.toNat % 128 * 128 ^ i < 128 ^ (i + 1) := by rw [Nat.pow_succ]; omega
        rw [Nat.mod_eq_of_lt (by omega)]; exact hl
      generalize (a + b.toNat % 128 * 128 ^ i) % 18446744073709551616 = a' at *
      generalize b.toNat % 128 * 128 ^ i % 18446744073709551616 = z at *
      clear h5 ha hd
      have hw := wrap_u64_nat (x := b.toNat % 128) (by omega)
      by_cases c3 : 128 ≤ b.toNat
      · rw [if_pos c3] at h1
        repeat (first
          | refine TL_val (rr_move rfl) rfl rfl rfl ?_
          | refine TL_val (rr_assign rfl) rfl rfl rfl ?_
          | refine TL_nil ?_
          | refine T_seq ?_
          | refine T_region ?_
          | refine T_condT rfl ?_
          | refine T_condF rfl ?_
          | refine T_skip ?_
          | refine T_exit ?_
          | refine T_ret ?_
          | refine T_block ?_
          | refine E_then ?_
          | refine E_thenX ?_
          | refine E_thenR ?_
          | refine E_blockN ?_
          | refine E_blockR ?_
          | refine E_blockX ?_
          | refine E_blockO rfl ?_
          | refine TL_val (rr_stridx Und.eq rfl rfl (by omega) hb) rfl rfl rfl ?_
          | refine TL_val (rr_and rfl rfl (and127 b)) rfl rfl rfl ?_
          | refine TL_val (rr_or rfl rfl hor) rfl rfl rfl ?_
          | refine TL_val (rr_conv Und.eq Und.eq rfl hw) rfl rfl rfl ?_
          | refine TL_val (rr_shl rfl rfl hsh) rfl rfl rfl ?_
          | refine TL_val (rr_pickT rfl rfl) rfl rfl rfl ?_
          | refine TL_val (rr_pickF rfl rfl) rfl rfl rfl ?_
          | refine TL_val (rr_strlen Und.eq rfl) rfl rfl rfl ?_
          | refine TL_val (rr_lss rfl rfl (decide_eq_true (by omega))) rfl rfl rfl ?_
          | refine TL_val (rr_lss rfl rfl (decide_eq_false (by omega))) rfl rfl rfl ?_
          | refine TL_val (rr_geq rfl rfl (decide_eq_true (by omega))) rfl rfl rfl ?_
          | refine TL_val (rr_geq rfl rfl (decide_eq_false (by omega))) rfl rfl rfl ?_
          | refine TL_val (rr_eql rfl rfl (decide_eq_true (by omega))) rfl rfl rfl ?_
          | refine TL_val (rr_eql rfl rfl (decide_eq_false (by omega))) rfl rfl rfl ?_
          | refine TL_val (rr_add64 rfl rfl (by omega) (by omega) rfl) rfl rfl rfl ?_
          | refine TL_val (rr_mul64 rfl rfl (by omega) (by omega) rfl) rfl rfl rfl ?_
          | refine TL_skip rfl rfl rfl rfl rfl rfl ?_
          | refine TL_gval (rr_stridx Und.eq rfl rfl (by omega) hb) rfl rfl rfl rfl rfl ?_
          | refine TL_gval (rr_move rfl) rfl rfl rfl rfl rfl ?_
          | refine TL_gval (rr_pickT rfl rfl) rfl rfl rfl rfl rfl ?_
          | refine TL_gval (rr_pickF rfl rfl) rfl rfl rfl rfl rfl ?_
          | refine TL_gval (rr_lss rfl rfl (decide_eq_true (by omega))) rfl rfl rfl rfl rfl ?_
          | refine TL_gval (rr_lss rfl rfl (decide_eq_false (by omega))) rfl rfl rfl rfl rfl ?_
          | refine TL_gval (rr_gtr rfl rfl (decide_eq_true (by omega))) rfl rfl rfl rfl rfl ?_
          | refine TL_gval (rr_gtr rfl rfl (decide_eq_false (by omega))) rfl rfl rfl rfl rfl ?_
          | refine TL_gval (rr_eql rfl rfl (decide_eq_true (by omega))) rfl rfl rfl rfl rfl ?_
          | refine TL_gval (rr_eql rfl rfl (decide_eq_false (by omega))) rfl rfl rfl rfl rfl ?_)
        exact E_round (i + 1, a') ⟨h1, by omega, by omega, hlt, hnx⟩ (by show 10 - (i + 1) < 10 - i; omega) ⟨rfl, rfl, rfl, trivial⟩ rfl
      · rw [if_neg c3] at h1
        have fin : ∀ (r : Nat × Nat × Int), readF s = r → triV (readF s) = triV r := fun r h => by rw [h]
        by_cases c4 : b.toNat = 0
        · by_cases c5 : 0 < i
          · rw [if_pos (.inl ⟨c4, c5⟩)] at h1
            rw [fin _ h1]
            repeat (first
              | refine TL_val (rr_move rfl) rfl rfl rfl ?_
              | refine TL_val (rr_assign rfl) rfl rfl rfl ?_
              | refine TL_nil ?_
              | refine T_seq ?_
              | refine T_region ?_
              | refine T_condT rfl ?_
              | refine T_condF rfl ?_
              | refine T_skip ?_
              | refine T_exit ?_
              | refine T_ret ?_
              | refine T_block ?_
              | refine E_then ?_
              | refine E_thenX ?_
              | refine E_thenR ?_
              | refine E_blockN ?_
              | refine E_blockR ?_
              | refine E_blockX ?_
              | refine E_blockO rfl ?_
              | refine TL_val (rr_stridx Und.eq rfl rfl (by omega) hb) rfl rfl rfl ?_
              | refine TL_val (rr_and rfl rfl (and127 b)) rfl rfl rfl ?_
              | refine TL_val (rr_or rfl rfl hor) rfl rfl rfl ?_
              | refine TL_val (rr_conv Und.eq Und.eq rfl hw) rfl rfl rfl ?_
              | refine TL_val (rr_shl rfl rfl hsh) rfl rfl rfl ?_
              | refine TL_val (rr_pickT rfl rfl) rfl rfl rfl ?_
              | refine TL_val (rr_pickF rfl rfl) rfl rfl rfl ?_
              | refine TL_val (rr_strlen Und.eq rfl) rfl rfl rfl ?_
              | refine TL_val (rr_lss rfl rfl (decide_eq_true (by omega))) rfl rfl rfl ?_
              | refine TL_val (rr_lss rfl rfl (decide_eq_false (by omega))) rfl rfl rfl ?_
              | refine TL_val (rr_geq rfl rfl (decide_eq_true (by omega))) rfl rfl rfl ?_
              | refine TL_val (rr_geq rfl rfl (decide_eq_false (by omega))) rfl rfl rfl ?_
              | refine TL_val (rr_eql rfl rfl (decide_eq_true (by omega))) rfl rfl rfl ?_
              | refine TL_val (rr_eql rfl rfl (decide_eq_false (by omega))) rfl rfl rfl ?_
              | refine TL_val (rr_add64 rfl rfl (by omega) (by omega) rfl) rfl rfl rfl ?_
              | refine TL_val (rr_mul64 rfl rfl (by omega) (by omega) rfl) rfl rfl rfl ?_
              | refine TL_skip rfl rfl rfl rfl rfl rfl ?_
              | refine TL_gval (rr_stridx Und.eq rfl rfl (by omega) hb) rfl rfl rfl rfl rfl ?_
              | refine TL_gval (rr_move rfl) rfl rfl rfl rfl rfl ?_
              | refine TL_gval (rr_pickT rfl rfl) rfl rfl rfl rfl rfl ?_
              | refine TL_gval (rr_pickF rfl rfl) rfl rfl rfl rfl rfl ?_
              | refine TL_gval (rr_lss rfl rfl (decide_eq_true (by omega))) rfl rfl rfl rfl rfl ?_
              | refine TL_gval (rr_lss rfl rfl (decide_eq_false (by omega))) rfl rfl rfl rfl rfl ?_
              | refine TL_gval (rr_gtr rfl rfl (decide_eq_true (by omega))) rfl rfl rfl rfl rfl ?_
              | refine TL_gval (rr_gtr rfl rfl (decide_eq_false (by omega))) rfl rfl rfl rfl rfl ?_
              | refine TL_gval (rr_eql rfl rfl (decide_eq_true (by omega))) rfl rfl rfl rfl rfl ?_
              | refine TL_gval (rr_eql rfl rfl (decide_eq_false (by omega))) rfl rfl rfl rfl rfl ?_)
            exact E_ret3 rfl rfl rfl rfl fun w hm => hm.ret
          · rw [if_neg (by omega)] at h1
            rw [fin _ h1]
            repeat (first
              | refine TL_val (rr_move rfl) rfl rfl rfl ?_
              | refine TL_val (rr_assign rfl) rfl rfl rfl ?_
              | refine TL_nil ?_
              | refine T_seq ?_
              | refine T_region ?_
              | refine T_condT rfl ?_
              | refine T_condF rfl ?_
              | refine T_skip ?_
              | refine T_exit ?_
              | refine T_ret ?_
              | refine T_block ?_
              | refine E_then ?_
              | refine E_thenX ?_
              | refine E_thenR ?_
              | refine E_blockN ?_
              | refine E_blockR ?_
              | refine E_blockX ?_
              | refine E_blockO rfl ?_
              | refine TL_val (rr_stridx Und.eq rfl rfl (by omega) hb) rfl rfl rfl ?_
              | refine TL_val (rr_and rfl rfl (and127 b)) rfl rfl rfl ?_
              | refine TL_val (rr_or rfl rfl hor) rfl rfl rfl ?_
              | refine TL_val (rr_conv Und.eq Und.eq rfl hw) rfl rfl rfl ?_
              | refine TL_val (rr_shl rfl rfl hsh) rfl rfl rfl ?_
              | refine TL_val (rr_pickT rfl rfl) rfl rfl rfl ?_
              | refine TL_val (rr_pickF rfl rfl) rfl rfl rfl ?_
              | refine TL_val (rr_strlen Und.eq rfl) rfl rfl rfl ?_
              | refine TL_val (rr_lss rfl rfl (decide_eq_true (by omega))) rfl rfl rfl ?_
              | refine TL_val (rr_lss rfl rfl (decide_eq_false (by omega))) rfl rfl rfl ?_
              | refine TL_val (rr_geq rfl rfl (decide_eq_true (by omega))) rfl rfl rfl ?_
              | refine TL_val (rr_geq rfl rfl (decide_eq_false (by omega))) rfl rfl rfl ?_
              | refine TL_val (rr_eql rfl rfl (decide_eq_true (by omega))) rfl rfl rfl ?_
              | refine TL_val (rr_eql rfl rfl (decide_eq_false (by omega))) rfl rfl rfl ?_
              | refine TL_val (rr_add64 rfl rfl (by omega) (by omega) rfl) rfl rfl rfl ?_
              | refine TL_val (rr_mul64 rfl rfl (by omega) (by omega) rfl) rfl rfl rfl ?_
              | refine TL_skip rfl rfl rfl rfl rfl rfl ?_
              | refine TL_gval (rr_stridx Und.eq rfl rfl (by omega) hb) rfl rfl rfl rfl rfl ?_
              | refine TL_gval (rr_move rfl) rfl rfl rfl rfl rfl ?_
              | refine TL_gval (rr_pickT rfl rfl) rfl rfl rfl rfl rfl ?_
              | refine TL_gval (rr_pickF rfl rfl) rfl rfl rfl rfl rfl ?_
              | refine TL_gval (rr_lss rfl rfl (decide_eq_true (by omega))) rfl rfl rfl rfl rfl ?_
              | refine TL_gval (rr_lss rfl rfl (decide_eq_false (by omega))) rfl rfl rfl rfl rfl ?_
              | refine TL_gval (rr_gtr rfl rfl (decide_eq_true (by omega))) rfl rfl rfl rfl rfl ?_
              | refine TL_gval (rr_gtr rfl rfl (decide_eq_false (by omega))) rfl rfl rfl rfl rfl ?_
              | refine TL_gval (rr_eql rfl rfl (decide_eq_true (by omega))) rfl rfl rfl rfl rfl ?_
              | refine TL_gval (rr_eql rfl rfl (decide_eq_false (by omega))) rfl rfl rfl rfl rfl ?_)
            exact E_ret3 rfl rfl rfl rfl fun w hm => hm.ret
        · by_cases c5 : i = 9
          · by_cases c6 : 1 < b.toNat
            · rw [if_pos (.inr ⟨c5, c6⟩)] at h1
              rw [fin _ h1]
              repeat (first
                | refine TL_val (rr_move rfl) rfl rfl rfl ?_
                | refine TL_val (rr_assign rfl) rfl rfl rfl ?_
                | refine TL_nil ?_
                | refine T_seq ?_
                | refine T_region ?_
                | refine T_condT rfl ?_
                | refine T_condF rfl ?_
                | refine T_skip ?_
                | refine T_exit ?_
                | refine T_ret ?_
                | refine T_block ?_
                | refine E_then ?_
                | refine E_thenX ?_
                | refine E_thenR ?_
                | refine E_blockN ?_
                | refine E_blockR ?_
                | refine E_blockX ?_
                | refine E_blockO rfl ?_
                | refine TL_val (rr_stridx Und.eq rfl rfl (by omega) hb) rfl rfl rfl ?_
                | refine TL_val (rr_and rfl rfl (and127 b)) rfl rfl rfl ?_
                | refine TL_val (rr_or rfl rfl hor) rfl rfl rfl ?_
                | refine TL_val (rr_conv Und.eq Und.eq rfl hw) rfl rfl rfl ?_
                | refine TL_val (rr_shl rfl rfl hsh) rfl rfl rfl ?_
                | refine TL_val (rr_pickT rfl rfl) rfl rfl rfl ?_
                | refine TL_val (rr_pickF rfl rfl) rfl rfl rfl ?_
                | refine TL_val (rr_strlen Und.eq rfl) rfl rfl rfl ?_
                | refine TL_val (rr_lss rfl rfl (decide_eq_true (by omega))) rfl rfl rfl ?_
                | refine TL_val (rr_lss rfl rfl (decide_eq_false (by omega))) rfl rfl rfl ?_
                | refine TL_val (rr_geq rfl rfl (decide_eq_true (by omega))) rfl rfl rfl ?_
                | refine TL_val (rr_geq rfl rfl (decide_eq_false (by omega))) rfl rfl rfl ?_
                | refine TL_val (rr_eql rfl rfl (decide_eq_true (by omega))) rfl rfl rfl ?_
                | refine TL_val (rr_eql rfl rfl (decide_eq_false (by omega))) rfl rfl rfl ?_
                | refine TL_val (rr_add64 rfl rfl (by omega) (by omega) rfl) rfl rfl rfl ?_
                | refine TL_val (rr_mul64 rfl rfl (by omega) (by omega) rfl) rfl rfl rfl ?_
                | refine TL_skip rfl rfl rfl rfl rfl rfl ?_
                | refine TL_gval (rr_stridx Und.eq rfl rfl (by omega) hb) rfl rfl rfl rfl rfl ?_
                | refine TL_gval (rr_move rfl) rfl rfl rfl rfl rfl ?_
                | refine TL_gval (rr_pickT rfl rfl) rfl rfl rfl rfl rfl ?_
                | refine TL_gval (rr_pickF rfl rfl) rfl rfl rfl rfl rfl ?_
                | refine TL_gval (rr_lss rfl rfl (decide_eq_true (by omega))) rfl rfl rfl rfl rfl ?_
                | refine TL_gval (rr_lss rfl rfl (decide_eq_false (by omega))) rfl rfl rfl rfl rfl ?_
                | refine TL_gval (rr_gtr rfl rfl (decide_eq_true (by omega))) rfl rfl rfl rfl rfl ?_
                | refine TL_gval (rr_gtr rfl rfl (decide_eq_false (by omega))) rfl rfl rfl rfl rfl ?_
                | refine TL_gval (rr_eql rfl rfl (decide_eq_true (by omega))) rfl rfl rfl rfl rfl ?_
                | refine TL_gval (rr_eql rfl rfl (decide_eq_false (by omega))) rfl rfl rfl rfl rfl ?_)
              exact E_ret3 rfl rfl rfl rfl fun w hm => hm.ret
            · rw [if_neg (by omega)] at h1
              rw [fin _ h1]
              repeat (first
                | refine TL_val (rr_move rfl) rfl rfl rfl ?_
                | refine TL_val (rr_assign rfl) rfl rfl rfl ?_
                | refine TL_nil ?_
                | refine T_seq ?_
                | refine T_region ?_
                | refine T_condT rfl ?_
                | refine T_condF rfl ?_
                | refine T_skip ?_
                | refine T_exit ?_
                | refine T_ret ?_
                | refine T_block ?_
                | refine E_then ?_
                | refine E_thenX ?_
                | refine E_thenR ?_
                | refine E_blockN ?_
                | refine E_blockR ?_
                | refine E_blockX ?_
                | refine E_blockO rfl ?_
                | refine TL_val (rr_stridx Und.eq rfl rfl (by omega) hb) rfl rfl rfl ?_
                | refine TL_val (rr_and rfl rfl (and127 b)) rfl rfl rfl ?_
                | refine TL_val (rr_or rfl rfl hor) rfl rfl rfl ?_
                | refine TL_val (rr_conv Und.eq Und.eq rfl hw) rfl rfl rfl ?_
                | refine TL_val (rr_shl rfl rfl hsh) rfl rfl rfl ?_
                | refine TL_val (rr_pickT rfl rfl) rfl rfl rfl ?_
                | refine TL_val (rr_pickF rfl rfl) rfl rfl rfl ?_
                | refine TL_val (rr_strlen Und.eq rfl) rfl rfl rfl ?_
                | refine TL_val (rr_lss rfl rfl (decide_eq_true (by omega))) rfl rfl rfl ?_
                | refine TL_val (rr_lss rfl rfl (decide_eq_false (by omega))) rfl rfl rfl ?_
                | refine TL_val (rr_geq rfl rfl (decide_eq_true (by omega))) rfl rfl rfl ?_
                | refine TL_val (rr_geq rfl rfl (decide_eq_false (by omega))) rfl rfl rfl ?_
                | refine TL_val (rr_eql rfl rfl (decide_eq_true (by omega))) rfl rfl rfl ?_
                | refine TL_val (rr_eql rfl rfl (decide_eq_false (by omega))) rfl rfl rfl ?_
                | refine TL_val (rr_add64 rfl rfl (by omega) (by omega) rfl) rfl rfl rfl ?_
                | refine TL_val (rr_mul64 rfl rfl (by omega) (by omega) rfl) rfl rfl rfl ?_
                | refine TL_skip rfl rfl rfl rfl rfl rfl ?_
                | refine TL_gval (rr_stridx Und.eq rfl rfl (by omega) hb) rfl rfl rfl rfl rfl ?_
                | refine TL_gval (rr_move rfl) rfl rfl rfl rfl rfl ?_
                | refine TL_gval (rr_pickT rfl rfl) rfl rfl rfl rfl rfl ?_
                | refine TL_gval (rr_pickF rfl rfl) rfl rfl rfl rfl rfl ?_
                | refine TL_gval (rr_lss rfl rfl (decide_eq_true (by omega))) rfl rfl rfl rfl rfl ?_
                | refine TL_gval (rr_lss rfl rfl (decide_eq_false (by omega))) rfl rfl rfl rfl rfl ?_
                | refine TL_gval (rr_gtr rfl rfl (decide_eq_true (by omega))) rfl rfl rfl rfl rfl ?_
                | refine TL_gval (rr_gtr rfl rfl (decide_eq_false (by omega))) rfl rfl rfl rfl rfl ?_
                | refine TL_gval (rr_eql rfl rfl (decide_eq_true (by omega))) rfl rfl rfl rfl rfl ?_
                | refine TL_gval (rr_eql rfl rfl (decide_eq_false (by omega))) rfl rfl rfl rfl rfl ?_)
              exact E_ret3 rfl rfl rfl rfl fun w hm => hm.ret
          · rw [if_neg (by omega)] at h1
            rw [fin _ h1]
            repeat (first
              | refine TL_val (rr_move rfl) rfl rfl rfl ?_
              | refine TL_val (rr_assign rfl) rfl rfl rfl ?_
              | refine TL_nil ?_
              | refine T_seq ?_
              | refine T_region ?_
              | refine T_condT rfl ?_
              | refine T_condF rfl ?_
              | refine T_skip ?_
              | refine T_exit ?_
              | refine T_ret ?_
              | refine T_block ?_
              | refine E_then ?_
              | refine E_thenX ?_
              | refine E_thenR ?_
              | refine E_blockN ?_
              | refine E_blockR ?_
              | refine E_blockX ?_
              | refine E_blockO rfl ?_
              | refine TL_val (rr_stridx Und.eq rfl rfl (by omega) hb) rfl rfl rfl ?_
              | refine TL_val (rr_and rfl rfl (and127 b)) rfl rfl rfl ?_
              | refine TL_val (rr_or rfl rfl hor) rfl rfl rfl ?_
              | refine TL_val (rr_conv Und.eq Und.eq rfl hw) rfl rfl rfl ?_
              | refine TL_val (rr_shl rfl rfl hsh) rfl rfl rfl ?_
              | refine TL_val (rr_pickT rfl rfl) rfl rfl rfl ?_
              | refine TL_val (rr_pickF rfl rfl) rfl rfl rfl ?_
              | refine TL_val (rr_strlen Und.eq rfl) rfl rfl rfl ?_
              | refine TL_val (rr_lss rfl rfl (decide_eq_true (by omega))) rfl rfl rfl ?_
              | refine TL_val (rr_lss rfl rfl (decide_eq_false (by omega))) rfl rfl rfl ?_
              | refine TL_val (rr_geq rfl rfl (decide_eq_true (by omega))) rfl rfl rfl ?_
              | refine TL_val (rr_geq rfl rfl (decide_eq_false (by omega))) rfl rfl rfl ?_
              | refine TL_val (rr_eql rfl rfl (decide_eq_true (by omega))) rfl rfl rfl ?_
              | refine TL_val (rr_eql rfl rfl (decide_eq_false (by omega))) rfl rfl rfl ?_
              | refine TL_val (rr_add64 rfl rfl (by omega) (by omega) rfl) rfl rfl rfl ?_
              | refine TL_val (rr_mul64 rfl rfl (by omega) (by omega) rfl) rfl rfl rfl ?_
              | refine TL_skip rfl rfl rfl rfl rfl rfl ?_
              | refine TL_gval (rr_stridx Und.eq rfl rfl (by omega) hb) rfl rfl rfl rfl rfl ?_
              | refine TL_gval (rr_move rfl) rfl rfl rfl rfl rfl ?_
              | refine TL_gval (rr_pickT rfl rfl) rfl rfl rfl rfl rfl ?_
              | refine TL_gval (rr_pickF rfl rfl) rfl rfl rfl rfl rfl ?_
              | refine TL_gval (rr_lss rfl rfl (decide_eq_true (by omega))) rfl rfl rfl rfl rfl ?_
              | refine TL_gval (rr_lss rfl rfl (decide_eq_false (by omega))) rfl rfl rfl rfl rfl ?_
              | refine TL_gval (rr_gtr rfl rfl (decide_eq_true (by omega))) rfl rfl rfl rfl rfl ?_
              | refine TL_gval (rr_gtr rfl rfl (decide_eq_false (by omega))) rfl rfl rfl rfl rfl ?_
              | refine TL_gval (rr_eql rfl rfl (decide_eq_true (by omega))) rfl rfl rfl rfl rfl ?_
              | refine TL_gval (rr_eql rfl rfl (decide_eq_false (by omega))) rfl rfl rfl rfl rfl ?_)
            exact E_ret3 rfl rfl rfl rfl fun w hm => hm.ret
    · have e : readF s = (0, 0, 4) := by
        rw [h1, List.drop_eq_getElem_cons c1]; simp only [readGo]; rw [if_pos (by omega)]
      rw [e]
      clear h5
      repeat (first
        | refine TL_val (rr_move rfl) rfl rfl rfl ?_
        | refine TL_val (rr_assign rfl) rfl rfl rfl ?_
        | refine TL_nil ?_
        | refine T_seq ?_
        | refine T_region ?_
        | refine T_condT rfl ?_
        | refine T_condF rfl ?_
        | refine T_skip ?_
        | refine T_exit ?_
        | refine T_ret ?_
        | refine T_block ?_
        | refine E_then ?_
        | refine E_thenX ?_
        | refine E_thenR ?_
        | refine E_blockN ?_
        | refine E_blockR ?_
        | refine E_blockX ?_
        | refine E_blockO rfl ?_
        | refine TL_val (rr_pickT rfl rfl) rfl rfl rfl ?_
        | refine TL_val (rr_pickF rfl rfl) rfl rfl rfl ?_
        | refine TL_val (rr_strlen Und.eq rfl) rfl rfl rfl ?_
        | refine TL_val (rr_lss rfl rfl (decide_eq_true (by omega))) rfl rfl rfl ?_
        | refine TL_val (rr_lss rfl rfl (decide_eq_false (by omega))) rfl rfl rfl ?_
        | refine TL_val (rr_geq rfl rfl (decide_eq_true (by omega))) rfl rfl rfl ?_
        | refine TL_val (rr_geq rfl rfl (decide_eq_false (by omega))) rfl rfl rfl ?_
        | refine TL_val (rr_eql rfl rfl (decide_eq_true (by omega))) rfl rfl rfl ?_
        | refine TL_val (rr_eql rfl rfl (decide_eq_false (by omega))) rfl rfl rfl ?_
        | refine TL_val (rr_add64 rfl rfl (by omega) (by omega) rfl) rfl rfl rfl ?_
        | refine TL_val (rr_mul64 rfl rfl (by omega) (by omega) rfl) rfl rfl rfl ?_
        | refine TL_skip rfl rfl rfl rfl rfl rfl ?_
        | refine TL_gval (rr_move rfl) rfl rfl rfl rfl rfl ?_
        | refine TL_gval (rr_pickT rfl rfl) rfl rfl rfl rfl rfl ?_
        | refine TL_gval (rr_pickF rfl rfl) rfl rfl rfl rfl rfl ?_
        | refine TL_gval (rr_lss rfl rfl (decide_eq_true (by omega))) rfl rfl rfl rfl rfl ?_
        | refine TL_gval (rr_lss rfl rfl (decide_eq_false (by omega))) rfl rfl rfl rfl rfl ?_
        | refine TL_gval (rr_gtr rfl rfl (decide_eq_true (by omega))) rfl rfl rfl rfl rfl ?_
        | refine TL_gval (rr_gtr rfl rfl (decide_eq_false (by omega))) rfl rfl rfl rfl rfl ?_
        | refine TL_gval (rr_eql rfl rfl (decide_eq_true (by omega))) rfl rfl rfl rfl rfl ?_
        | refine TL_gval (rr_eql rfl rfl (decide_eq_false (by omega))) rfl rfl rfl rfl rfl ?_)
      exact E_ret3 rfl rfl rfl rfl fun w hm => hm.ret
  · have hd : s.drop i = [] := List.drop_eq_nil_of_le (by omega)
    rw [hd] at h1
    simp only [readGo] at h1
    clear h5
    by_cases c2 : 10 ≤ i
    · rw [if_pos c2] at h1
      rw [h1]
      repeat (first
        | refine TL_val (rr_move rfl) rfl rfl rfl ?_
        | refine TL_val (rr_assign rfl) rfl rfl rfl ?_
        | refine TL_nil ?_
        | refine T_seq ?_
        | refine T_region ?_
        | refine T_condT rfl ?_
        | refine T_condF rfl ?_
        | refine T_skip ?_
        | refine T_exit ?_
        | refine T_ret ?_
        | refine T_block ?_
        | refine E_then ?_
        | refine E_thenX ?_
        | refine E_thenR ?_
        | refine E_blockN ?_
        | refine E_blockR ?_
        | refine E_blockX ?_
        | refine E_blockO rfl ?_
        | refine TL_val (rr_pickT rfl rfl) rfl rfl rfl ?_
        | refine TL_val (rr_pickF rfl rfl) rfl rfl rfl ?_
        | refine TL_val (rr_strlen Und.eq rfl) rfl rfl rfl ?_
        | refine TL_val (rr_lss rfl rfl (decide_eq_true (by omega))) rfl rfl rfl ?_
        | refine TL_val (rr_lss rfl rfl (decide_eq_false (by omega))) rfl rfl rfl ?_
        | refine TL_val (rr_geq rfl rfl (decide_eq_true (by omega))) rfl rfl rfl ?_
        | refine TL_val (rr_geq rfl rfl (decide_eq_false (by omega))) rfl rfl rfl ?_
        | refine TL_val (rr_eql rfl rfl (decide_eq_true (by omega))) rfl rfl rfl ?_
        | refine TL_val (rr_eql rfl rfl (decide_eq_false (by omega))) rfl rfl rfl ?_
        | refine TL_val (rr_add64 rfl rfl (by omega) (by omega) rfl) rfl rfl rfl ?_
        | refine TL_val (rr_mul64 rfl rfl (by omega) (by omega) rfl) rfl rfl rfl ?_
        | refine TL_skip rfl rfl rfl rfl rfl rfl ?_
        | refine TL_gval (rr_move rfl) rfl rfl rfl rfl rfl ?_
        | refine TL_gval (rr_pickT rfl rfl) rfl rfl rfl rfl rfl ?_
        | refine TL_gval (rr_pickF rfl rfl) rfl rfl rfl rfl rfl ?_
        | refine TL_gval (rr_lss rfl rfl (decide_eq_true (by omega))) rfl rfl rfl rfl rfl ?_
        | refine TL_gval (rr_lss rfl rfl (decide_eq_false (by omega))) rfl rfl rfl rfl rfl ?_
        | refine TL_gval (rr_gtr rfl rfl (decide_eq_true (by omega))) rfl rfl rfl rfl rfl ?_
        | refine TL_gval (rr_gtr rfl rfl (decide_eq_false (by omega))) rfl rfl rfl rfl rfl ?_
        | refine TL_gval (rr_eql rfl rfl (decide_eq_true (by omega))) rfl rfl rfl rfl rfl ?_
        | refine TL_gval (rr_eql rfl rfl (decide_eq_false (by omega))) rfl rfl rfl rfl rfl ?_)
      exact E_ret3 rfl rfl rfl rfl fun w hm => hm.ret
    · rw [if_neg c2] at h1
      rw [h1]
      repeat (first
        | refine TL_val (rr_move rfl) rfl rfl rfl ?_
        | refine TL_val (rr_assign rfl) rfl rfl rfl ?_
        | refine TL_nil ?_
        | refine T_seq ?_
        | refine T_region ?_
        | refine T_condT rfl ?_
        | refine T_condF rfl ?_
        | refine T_skip ?_
        | refine T_exit ?_
        | refine T_ret ?_
        | refine T_block ?_
        | refine E_then ?_
        | refine E_thenX ?_
        | refine E_thenR ?_
        | refine E_blockN ?_
        | refine E_blockR ?_
        | refine E_blockX ?_
        | refine E_blockO rfl ?_
        | refine TL_val (rr_pickT rfl rfl) rfl rfl rfl ?_
        | refine TL_val (rr_pickF rfl rfl) rfl rfl rfl ?_
        | refine TL_val (rr_strlen Und.eq rfl) rfl rfl rfl ?_
        | refine TL_val (rr_lss rfl rfl (decide_eq_true (by omega))) rfl rfl rfl ?_
        | refine TL_val (rr_lss rfl rfl (decide_eq_false (by omega))) rfl rfl rfl ?_
        | refine TL_val (rr_geq rfl rfl (decide_eq_true (by omega))) rfl rfl rfl ?_
        | refine TL_val (rr_geq rfl rfl (decide_eq_false (by omega))) rfl rfl rfl ?_
        | refine TL_val (rr_eql rfl rfl (decide_eq_true (by omega))) rfl rfl rfl ?_
        | refine TL_val (rr_eql rfl rfl (decide_eq_false (by omega))) rfl rfl rfl ?_
        | refine TL_val (rr_add64 rfl rfl (by omega) (by omega) rfl) rfl rfl rfl ?_
        | refine TL_val (rr_mul64 rfl rfl (by omega) (by omega) rfl) rfl rfl rfl ?_
        | refine TL_skip rfl rfl rfl rfl rfl rfl ?_
        | refine TL_gval (rr_move rfl) rfl rfl rfl rfl rfl ?_
        | refine TL_gval (rr_pickT rfl rfl) rfl rfl rfl rfl rfl ?_
        | refine TL_gval (rr_pickF rfl rfl) rfl rfl rfl rfl rfl ?_
        | refine TL_gval (rr_lss rfl rfl (decide_eq_true (by omega))) rfl rfl rfl rfl rfl ?_
        | refine TL_gval (rr_lss rfl rfl (decide_eq_false (by omega))) rfl rfl rfl rfl rfl ?_
        | refine TL_gval (rr_gtr rfl rfl (decide_eq_true (by omega))) rfl rfl rfl rfl rfl ?_
        | refine TL_gval (rr_gtr rfl rfl (decide_eq_false (by omega))) rfl rfl rfl rfl rfl ?_
        | refine TL_gval (rr_eql rfl rfl (decide_eq_true (by omega))) rfl rfl rfl rfl rfl ?_
        | refine TL_gval (rr_eql rfl rfl (decide_eq_false (by omega))) rfl rfl rfl rfl rfl ?_)
      exact E_ret3 rfl rfl rfl rfl fun w hm => hm.ret
end Go.Proofs.Ytnooleopmlijeaa.eng
