/- What package pack computes. -/
import Derived.Test.YtnooleopmlijeaaTy
import Derived.Test.YtnooleopmlijeaaPackL
namespace Go.Proofs.Ytnooleopmlijeaa.eng
open Go.RowKit kit mix packL
theorem u8_or : ∀ (y : Fin 256), bits .or .u8 ((y.val : Nat) : Int) 128 = (((UInt8.ofNat (y.val % 128 + 128)).toNat : Nat) : Int) := by decide +kernel
theorem low8 (x : Nat) : bits .or .u8 (IntKind.u8.wrap (x : Int)) 128 = (((UInt8.ofNat (x % 128 + 128)).toNat : Nat) : Int) := by
  have := u8_or ⟨x % 256, Nat.mod_lt _ (by decide)⟩
  have e : IntKind.u8.wrap (x : Int) = ((x % 256 : Nat) : Int) := by rw [IntKind.wrap_u8]; omega
  rw [e, this, Nat.mod_mod_of_dvd x (by decide : 128 ∣ 256)]
theorem small8 {x : Nat} (h : x < 128) : IntKind.u8.wrap (x : Int) = (((UInt8.ofNat x).toNat : Nat) : Int) := by
  rw [IntKind.wrap_u8]; simp
theorem shr7 {P : Program} (x : Nat) (w : World) : (Op.shift .shr .u64 (x : Int) .u64 7).run P w = .ok (.int .u64 ((x / 128 : Nat) : Int)) w := by
  have : (x : Int).fdiv 128 = ((x / 128 : Nat) : Int) := by rw [Int.fdiv_eq_ediv_of_nonneg _ (by decide)]; simp
  simp [Op.shift, IntKind.bits, this]
theorem num_calls (x : Nat) (w : World) (hx : x < 18446744073709551616) :
    Calls Try.prog 16 #[.int .u64 x] w (Meets (ret (str (numL x))) w) := by
  have hlen := numL_len hx
  refine enter (args := [.int .u64 x]) (n := 20) Try.func16 rfl rfl rfl ?_
  repeat (first
    | refine TL_val (rr_move rfl) rfl rfl rfl ?_
    | refine TL_val (rr_assign rfl) rfl rfl rfl ?_
    | refine TL_nil ?_
    | refine T_seq ?_
    | refine T_region ?_
    | refine T_condT rfl ?_
    | refine T_condF rfl ?_
    | refine T_skip ?_
    | refine T_exit ?_
    | refine T_ret ?_
    | refine T_block ?_
    | refine E_then ?_
    | refine E_thenX ?_
    | refine E_thenR ?_
    | refine E_blockN ?_
    | refine E_blockR ?_
    | refine E_blockX ?_
    | refine E_blockO rfl ?_
    | refine TL_val (rr_geq rfl rfl (decide_eq_true (by omega))) rfl rfl rfl ?_
    | refine TL_val (rr_geq rfl rfl (decide_eq_false (by omega))) rfl rfl rfl ?_)
  refine T_nil 5 1 ?_
  refine T_loop (ι := Nat × List UInt8 × Value) (fun (y, l, _) => numL x = l ++ numL y ∧ y < 18446744073709551616) (fun (y, _, v) => [(0, .int .u64 y), (3, v)]) (fun (_, l, v) => [rowO 5 1 v l.length (l.map u8v)]) (fun (y, _, _) => y) (x, [], .slice none 0 0) ⟨rfl, hx⟩ ⟨rfl, rfl, trivial⟩ rfl ?_
  rintro ⟨y, l, v⟩ ⟨h1, h2⟩
  have hl := congrArg List.length h1
  rw [List.length_append] at hl
  have hp := numL_pos y
  by_cases c : y < 128
  · repeat (first
      | refine TL_val (rr_move rfl) rfl rfl rfl ?_
      | refine TL_val (rr_assign rfl) rfl rfl rfl ?_
      | refine TL_nil ?_
      | refine T_seq ?_
      | refine T_region ?_
      | refine T_condT rfl ?_
      | refine T_condF rfl ?_
      | refine T_skip ?_
      | refine T_exit ?_
      | refine T_ret ?_
      | refine T_block ?_
      | refine E_then ?_
      | refine E_thenX ?_
      | refine E_thenR ?_
      | refine E_blockN ?_
      | refine E_blockR ?_
      | refine E_blockX ?_
      | refine E_blockO rfl ?_
      | refine TL_val (rr_conv Und.eq Und.eq rfl (small8 c)) rfl rfl rfl ?_
      | refine TL_val (rr_geq rfl rfl (decide_eq_true (by omega))) rfl rfl rfl ?_
      | refine TL_val (rr_geq rfl rfl (decide_eq_false (by omega))) rfl rfl rfl ?_)
    refine TL_push1 (i := 0) rfl rfl rfl rfl rfl rfl (fun z h => by cases h; rfl) (by omega) (by omega) rfl fun z v' => ?_
    have e : l.map u8v ++ [.int .u8 (((UInt8.ofNat y).toNat : Nat) : Int)] = (numL x).map u8v := by rw [h1, numL_small c]; simp [u8v]
    have e2 : l.length + 1 = (numL x).length := by rw [h1, numL_small c]; simp
    refine TL_val (rr_string Und.eq Und.eq Und.eq rfl e2 (e ▸ sl_row (i := 0) rfl)) rfl rfl rfl ?_
    repeat (first
      | refine TL_val (rr_move rfl) rfl rfl rfl ?_
      | refine TL_val (rr_assign rfl) rfl rfl rfl ?_
      | refine TL_nil ?_
      | refine T_seq ?_
      | refine T_region ?_
      | refine T_condT rfl ?_
      | refine T_condF rfl ?_
      | refine T_skip ?_
      | refine T_exit ?_
      | refine T_ret ?_
      | refine T_block ?_
      | refine E_then ?_
      | refine E_thenX ?_
      | refine E_thenR ?_
      | refine E_blockN ?_
      | refine E_blockR ?_
      | refine E_blockX ?_
      | refine E_blockO rfl ?_
      | refine TL_val (rr_geq rfl rfl (decide_eq_true (by omega))) rfl rfl rfl ?_
      | refine TL_val (rr_geq rfl rfl (decide_eq_false (by omega))) rfl rfl rfl ?_)
    exact E_ret1 rfl rfl fun w hm => hm.ret
  · have hb := numL_big c
    repeat (first
      | refine TL_val (rr_move rfl) rfl rfl rfl ?_
      | refine TL_val (rr_assign rfl) rfl rfl rfl ?_
      | refine TL_nil ?_
      | refine T_seq ?_
      | refine T_region ?_
      | refine T_condT rfl ?_
      | refine T_condF rfl ?_
      | refine T_skip ?_
      | refine T_exit ?_
      | refine T_ret ?_
      | refine T_block ?_
      | refine E_then ?_
      | refine E_thenX ?_
      | refine E_thenR ?_
      | refine E_blockN ?_
      | refine E_blockR ?_
      | refine E_blockX ?_
      | refine E_blockO rfl ?_
      | refine TL_val (rr_conv Und.eq Und.eq rfl rfl) rfl rfl rfl ?_
      | refine TL_val (rr_or rfl rfl (low8 y)) rfl rfl rfl ?_
      | refine TL_val (rr_shr rfl rfl (fun w => shr7 y w)) rfl rfl rfl ?_
      | refine TL_val (rr_geq rfl rfl (decide_eq_true (by omega))) rfl rfl rfl ?_
      | refine TL_val (rr_geq rfl rfl (decide_eq_false (by omega))) rfl rfl rfl ?_)
    refine TL_push1 (i := 0) rfl rfl rfl rfl rfl rfl (fun z h => by cases h; rfl) (by omega) (by omega) rfl fun z v' => ?_
    repeat (first
      | refine TL_val (rr_move rfl) rfl rfl rfl ?_
      | refine TL_val (rr_assign rfl) rfl rfl rfl ?_
      | refine TL_nil ?_
      | refine T_seq ?_
      | refine T_region ?_
      | refine T_condT rfl ?_
      | refine T_condF rfl ?_
      | refine T_skip ?_
      | refine T_exit ?_
      | refine T_ret ?_
      | refine T_block ?_
      | refine E_then ?_
      | refine E_thenX ?_
      | refine E_thenR ?_
      | refine E_blockN ?_
      | refine E_blockR ?_
      | refine E_blockX ?_
      | refine E_blockO rfl ?_
      | refine TL_val (rr_shr rfl rfl (fun w => shr7 y w)) rfl rfl rfl ?_
      | refine TL_val (rr_geq rfl rfl (decide_eq_true (by omega))) rfl rfl rfl ?_
      | refine TL_val (rr_geq rfl rfl (decide_eq_false (by omega))) rfl rfl rfl ?_)
    refine E_round (y / 128, l ++ [UInt8.ofNat (y % 128 + 128)], v') ⟨by rw [h1, hb]; simp, by omega⟩ (by show y / 128 < y; omega) ⟨rfl, rfl, trivial⟩ ?_
    simp [u8v]
theorem u8_and : ∀ (y : Fin 256), bits .and .u8 ((y.val : Nat) : Int) 127 = ((y.val % 128 : Nat) : Int) := by decide +kernel
theorem and127 (b : UInt8) : bits .and .u8 (b.toNat : Int) 127 = ((b.toNat % 128 : Nat) : Int) := u8_and ⟨b.toNat, b.toNat_lt⟩
theorem bits_or64 {x y : Nat} (hx : x < 18446744073709551616) (hy : y < 18446744073709551616) : bits .or .u64 (x : Int) (y : Int) = ((x ||| y : Nat) : Int) := by
  unfold bits
  simp only [IntKind.bits]
  have e1 : BitVec.ofInt 64 (x : Int) = BitVec.ofNat 64 x := by simp
  have e2 : BitVec.ofInt 64 (y : Int) = BitVec.ofNat 64 y := by simp
  rw [e1, e2]
  have e3 : (BitVec.ofNat 64 x ||| BitVec.ofNat 64 y).toNat = x ||| y := by
    rw [BitVec.toNat_or, BitVec.toNat_ofNat, BitVec.toNat_ofNat, Nat.mod_eq_of_lt (by omega), Nat.mod_eq_of_lt (by omega)]
  have hlt : x ||| y < 2 ^ 64 := Nat.or_lt_two_pow (by omega) (by omega)
  show IntKind.u64.wrap (((BitVec.ofNat 64 x ||| BitVec.ofNat 64 y).toNat : Nat) : Int) = _
  rw [e3, IntKind.wrap_u64]; omega
theorem shl64 {P : Program} (c i : Nat) (hi : i ≤ 9) (w : World) : (Op.shift .shl .u64 (c : Int) .i64 (7 * (i : Int))).run P w = .ok (.int .u64 ((c * 128 ^ i % 18446744073709551616 : Nat) : Int)) w := by
  rw [show (7 * (i : Int)) = ((7 * i : Nat) : Int) by simp]
  have e : min (7 * i) 64 = 7 * i := by omega
  have e0 : (128 : Nat) ^ i = 2 ^ (7 * i) := by rw [Nat.pow_mul]
  have e2 : (2 : Int) ^ (7 * i) = ((128 ^ i : Nat) : Int) := by rw [e0, Int.natCast_pow]; rfl
  have e3 : IntKind.u64.wrap ((c : Int) * 2 ^ (7 * i)) = ((c * 128 ^ i % 18446744073709551616 : Nat) : Int) := by
    rw [e2, IntKind.wrap_u64, ← Int.natCast_mul]; omega
  have h0 : ¬ (((7 * i : Nat) : Int) < 0) := by omega
  simp only [Op.shift, if_neg h0, IntKind.bits, Int.toNat_natCast, e, e3, Sem.run_pure]
theorem or_add {a c i : Nat} (hi : i ≤ 9) (ha : a < 128 ^ i) : bits .or .u64 (a : Int) ((c * 128 ^ i % 18446744073709551616 : Nat) : Int) = (((a + c * 128 ^ i) % 18446744073709551616 : Nat) : Int) := by
  have hp := pow_le9 hi
  rw [bits_or64 (by omega) (Nat.mod_lt _ (by decide))]
  congr 1
  have e : (128 : Nat) ^ i = 2 ^ (7 * i) := by rw [Nat.pow_mul]
  rw [e] at ha ⊢
  have e2 : (18446744073709551616 : Nat) = 2 ^ (7 * i) * 2 ^ (64 - 7 * i) := by rw [← Nat.pow_add, show 7 * i + (64 - 7 * i) = 64 by omega]
  have e3 : c * 2 ^ (7 * i) % 18446744073709551616 = 2 ^ (7 * i) * (c % 2 ^ (64 - 7 * i)) := by rw [e2, Nat.mul_comm c, Nat.mul_mod_mul_left]
  rw [e3, Nat.or_comm, ← Nat.two_pow_add_eq_or_of_lt ha]
  have hlt : 2 ^ (7 * i) * (c % 2 ^ (64 - 7 * i)) + a < 18446744073709551616 := by
    have h1 : c % 2 ^ (64 - 7 * i) + 1 ≤ 2 ^ (64 - 7 * i) := Nat.mod_lt _ (Nat.two_pow_pos _)
    have h2 : 2 ^ (7 * i) * (c % 2 ^ (64 - 7 * i) + 1) ≤ 2 ^ (7 * i) * 2 ^ (64 - 7 * i) := Nat.mul_le_mul_left _ h1
    rw [← e2, Nat.mul_add, Nat.mul_one] at h2
    omega
  have e4 : (a + c * 2 ^ (7 * i)) % 18446744073709551616 = (a + c * 2 ^ (7 * i) % 18446744073709551616) % 18446744073709551616 := by rw [Nat.add_mod_mod]
  rw [e4, e3, Nat.mod_eq_of_lt (a := a + 2 ^ (7 * i) * (c % 2 ^ (64 - 7 * i))) (by omega)]; omega
theorem wrap_u64_nat {x : Nat} (h : x < 18446744073709551616) : IntKind.u64.wrap (x : Int) = x := by rw [IntKind.wrap_u64]; omega
theorem wrap_i64_nat {x : Nat} (h : x < 9223372036854775808) : IntKind.i64.wrap (x : Int) = x := by rw [IntKind.wrap_i64]; omega
/-- how (n, k, e) is handed back -/
def triV (r : Nat × Nat × Int) : Value := .tuple #[.int .u64 (r.1 : Int), .int .i64 (r.2.1 : Int), .int .i64 r.2.2]
end Go.Proofs.Ytnooleopmlijeaa.eng
