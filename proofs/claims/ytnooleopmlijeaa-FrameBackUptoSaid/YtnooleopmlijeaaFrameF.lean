/- What frame.front computes. -/
import Derived.Test.YtnooleopmlijeaaFrame
namespace Go.Proofs.Ytnooleopmlijeaa.eng
open Go.RowKit kit mix sumL frameL
theorem bi_get (s : List UInt8) {i : Nat} (h : i < s.length) : ∃ b, s[i]? = some b ∧ bi s i = b.toNat := ⟨s[i], by simp [h], by simp [bi, h]⟩
theorem cv64 (b : UInt8) : IntKind.i64.wrap (b.toNat : Int) = ((b.toNat : Nat) : Int) := by have := b.toNat_lt; rw [IntKind.wrap_i64]; omega
theorem cv32 (b : UInt8) : IntKind.u32.wrap (b.toNat : Int) = ((b.toNat : Nat) : Int) := by have := b.toNat_lt; rw [IntKind.wrap_u32]; omega
theorem shl_nat {P : Program} (k : IntKind) (x j : Nat) (hj : j < 32) (hk : 32 ≤ k.bits) (hw : k.wrap ((2 ^ j * x : Nat) : Int) = ((2 ^ j * x : Nat) : Int)) (w : World) : (Op.shift .shl k (x : Int) .u64 (j : Int)).run P w = .ok (.int k ((2 ^ j * x : Nat) : Int)) w := by
  have e : min ((j : Int).toNat) k.bits = j := by rw [Int.toNat_natCast]; omega
  have e2 : (x : Int) * 2 ^ j = ((2 ^ j * x : Nat) : Int) := by simp [Int.mul_comm]
  have h0 : ¬ ((j : Int) < 0) := by omega
  simp only [Op.shift, if_neg h0, e, e2, hw, Sem.run_pure]
theorem or_nat (k : IntKind) {x y j : Nat} (hx : x < 2 ^ j) (hlt : 2 ^ j * y + x < 2 ^ k.bits) (hw : k.wrap ((2 ^ j * y + x : Nat) : Int) = ((2 ^ j * y + x : Nat) : Int)) : bits .or k (x : Int) ((2 ^ j * y : Nat) : Int) = ((2 ^ j * y + x : Nat) : Int) := by
  unfold bits
  rw [BitVec.ofInt_natCast, BitVec.ofInt_natCast]
  have e3 : (BitVec.ofNat k.bits x ||| BitVec.ofNat k.bits (2 ^ j * y)).toNat = 2 ^ j * y + x := by
    rw [BitVec.toNat_or, BitVec.toNat_ofNat, BitVec.toNat_ofNat, Nat.mod_eq_of_lt (by omega), Nat.mod_eq_of_lt (by omega), Nat.or_comm, ← Nat.two_pow_add_eq_or_of_lt hx]
  show k.wrap (((BitVec.ofNat k.bits x ||| BitVec.ofNat k.bits (2 ^ j * y)).toNat : Nat) : Int) = _
  rw [e3, hw]
theorem sh_nn {P : Program} (b : UInt8) (w : World) : (Op.shift .shl .i64 (b.toNat : Int) .u64 8).run P w = .ok (.int .i64 ((2 ^ 8 * b.toNat : Nat) : Int)) w :=
  shl_nat .i64 b.toNat 8 (by decide) (by decide) (by have := b.toNat_lt; rw [IntKind.wrap_i64]; omega) w
theorem or_nn {s : List UInt8} {b c : UInt8} (hb : bi s 2 = b.toNat) (hc : bi s 3 = c.toNat) : bits .or .i64 (b.toNat : Int) ((2 ^ 8 * c.toNat : Nat) : Int) = ((nn s : Nat) : Int) := by
  have h1 := b.toNat_lt
  have h2 := c.toNat_lt
  rw [or_nat .i64 h1 (by simp only [IntKind.bits]; omega) (by rw [IntKind.wrap_i64]; omega), nn, hb, hc]
  omega
theorem sh_u32 {P : Program} (j : Nat) (hj : j ≤ 24) (b : UInt8) (w : World) : (Op.shift .shl .u32 (b.toNat : Int) .u64 (j : Int)).run P w = .ok (.int .u32 ((2 ^ j * b.toNat : Nat) : Int)) w :=
  shl_nat .u32 b.toNat j (by omega) (by decide) (by
    have h1 := b.toNat_lt
    have h2 : 2 ^ j ≤ 2 ^ 24 := Nat.pow_le_pow_right (by decide) hj
    have h3 : 2 ^ j * b.toNat ≤ 2 ^ 24 * 255 := Nat.mul_le_mul h2 (by omega)
    rw [IntKind.wrap_u32]; omega) w
theorem sh8 {P : Program} (b : UInt8) (w : World) : (Op.shift .shl .u32 (b.toNat : Int) .u64 8).run P w = .ok (.int .u32 ((2 ^ 8 * b.toNat : Nat) : Int)) w := sh_u32 8 (by decide) b w
theorem sh16 {P : Program} (b : UInt8) (w : World) : (Op.shift .shl .u32 (b.toNat : Int) .u64 16).run P w = .ok (.int .u32 ((2 ^ 16 * b.toNat : Nat) : Int)) w := sh_u32 16 (by decide) b w
theorem sh24 {P : Program} (b : UInt8) (w : World) : (Op.shift .shl .u32 (b.toNat : Int) .u64 24).run P w = .ok (.int .u32 ((2 ^ 24 * b.toNat : Nat) : Int)) w := sh_u32 24 (by decide) b w
theorem or8_1 (a b : UInt8) : bits .or .u32 (a.toNat : Int) ((2 ^ 8 * b.toNat : Nat) : Int) = ((2 ^ 8 * b.toNat + a.toNat : Nat) : Int) := by
  have := a.toNat_lt
  have := b.toNat_lt
  exact or_nat .u32 (by omega) (by simp only [IntKind.bits]; omega) (by rw [IntKind.wrap_u32]; omega)
theorem or8_2 (a b c : UInt8) : bits .or .u32 ((2 ^ 8 * b.toNat + a.toNat : Nat) : Int) ((2 ^ 16 * c.toNat : Nat) : Int) = ((2 ^ 16 * c.toNat + (2 ^ 8 * b.toNat + a.toNat) : Nat) : Int) := by
  have := a.toNat_lt
  have := b.toNat_lt
  have := c.toNat_lt
  exact or_nat .u32 (by omega) (by simp only [IntKind.bits]; omega) (by rw [IntKind.wrap_u32]; omega)
theorem or8_3 (a b c d : UInt8) : bits .or .u32 ((2 ^ 16 * c.toNat + (2 ^ 8 * b.toNat + a.toNat) : Nat) : Int) ((2 ^ 24 * d.toNat : Nat) : Int) = ((2 ^ 24 * d.toNat + (2 ^ 16 * c.toNat + (2 ^ 8 * b.toNat + a.toNat)) : Nat) : Int) := by
  have := a.toNat_lt
  have := b.toNat_lt
  have := c.toNat_lt
  have := d.toNat_lt
  exact or_nat .u32 (by omega) (by simp only [IntKind.bits]; omega) (by rw [IntKind.wrap_u32]; omega)
theorem build_fr0 (w : World) : (Instr.build 43 (#[] : Array (Nat × Value))).run Try.prog w = .ok (.agg #[.int .i64 0, .int .i64 0, str []]) w := by
  unfold str; go_simp
theorem build_fr (x y : Int) (s : List UInt8) (w : World) : (Instr.build 43 #[(0, .int .i64 x), (1, .int .i64 y), (2, str s)]).run Try.prog w = .ok (.agg #[.int .i64 x, .int .i64 y, str s]) w := by
  unfold str; go_simp
set_option maxHeartbeats 4000000 in
attribute [local irreducible] Op.shift Go.bits in
theorem front_calls (s : List UInt8) (w : World) (hs : s.length ≤ 1000000000000000000) : Calls Try.prog 48 #[str s] w (Meets (ret (.tuple #[frV (frontF s).1, .int .i64 (frontF s).2.1, .int .i64 (frontF s).2.2])) w) := by
  refine enter (args := [str s]) (n := 86) Try.func48 rfl rfl rfl ?_
  refine T_seq (T_region (TL_new rfl fun g => ?_))
  unfold frontF
  have go4 : True := trivial
  by_cases c0 : s.length = 0
  · rw [if_neg (by omega), if_pos (by omega)]
    repeat (first
      | refine TL_val (rr_move rfl) rfl rfl rfl ?_
      | refine TL_val (rr_assign rfl) rfl rfl rfl ?_
      | refine TL_nil ?_
      | refine T_seq ?_
      | refine T_region ?_
      | refine T_condT rfl ?_
      | refine T_condF rfl ?_
      | refine T_skip ?_
      | refine T_ret ?_
      | refine E_then ?_
      | refine E_thenR ?_
      | refine TL_val (rr_build rfl build_fr0) rfl rfl rfl ?_
      | refine TL_val (rr_pickT rfl rfl) rfl rfl rfl ?_
      | refine TL_val (rr_pickF rfl rfl) rfl rfl rfl ?_
      | refine TL_val (rr_strlen Und.eq rfl) rfl rfl rfl ?_
      | refine TL_val (rr_lss rfl rfl (decide_eq_true (by omega))) rfl rfl rfl ?_
      | refine TL_val (rr_lss rfl rfl (decide_eq_false (by omega))) rfl rfl rfl ?_
      | refine TL_val (rr_gtr rfl rfl (decide_eq_true (by omega))) rfl rfl rfl ?_
      | refine TL_val (rr_gtr rfl rfl (decide_eq_false (by omega))) rfl rfl rfl ?_
      | refine TL_val (rr_neq rfl rfl (decide_eq_true (by omega))) rfl rfl rfl ?_
      | refine TL_val (rr_neq rfl rfl (decide_eq_false (by omega))) rfl rfl rfl ?_
      | refine TL_val (rr_add64 rfl rfl (by omega) (by omega) rfl) rfl rfl rfl ?_
      | refine TL_skip rfl rfl rfl rfl rfl rfl ?_
      | refine TL_gval (rr_move rfl) rfl rfl rfl rfl rfl ?_
      | refine TL_gval (rr_pickT rfl rfl) rfl rfl rfl rfl rfl ?_
      | refine TL_gval (rr_pickF rfl rfl) rfl rfl rfl rfl rfl ?_
      | refine TL_gval (rr_lss rfl rfl (decide_eq_true (by omega))) rfl rfl rfl rfl rfl ?_
      | refine TL_gval (rr_lss rfl rfl (decide_eq_false (by omega))) rfl rfl rfl rfl rfl ?_
      | refine TL_gval (rr_gtr rfl rfl (decide_eq_true (by omega))) rfl rfl rfl rfl rfl ?_
      | refine TL_gval (rr_gtr rfl rfl (decide_eq_false (by omega))) rfl rfl rfl rfl rfl ?_)
    refine TL_storeB (i := 0) rfl rfl rfl rfl rfl rfl ?_
    repeat (first
      | refine TL_val (rr_move rfl) rfl rfl rfl ?_
      | refine TL_val (rr_assign rfl) rfl rfl rfl ?_
      | refine TL_nil ?_
      | refine T_seq ?_
      | refine T_region ?_
      | refine T_condT rfl ?_
      | refine T_condF rfl ?_
      | refine T_skip ?_
      | refine T_ret ?_
      | refine E_then ?_
      | refine E_thenR ?_
      | refine TL_val (rr_pickT rfl rfl) rfl rfl rfl ?_
      | refine TL_val (rr_pickF rfl rfl) rfl rfl rfl ?_
      | refine TL_val (rr_strlen Und.eq rfl) rfl rfl rfl ?_
      | refine TL_val (rr_lss rfl rfl (decide_eq_true (by omega))) rfl rfl rfl ?_
      | refine TL_val (rr_lss rfl rfl (decide_eq_false (by omega))) rfl rfl rfl ?_
      | refine TL_val (rr_gtr rfl rfl (decide_eq_true (by omega))) rfl rfl rfl ?_
      | refine TL_val (rr_gtr rfl rfl (decide_eq_false (by omega))) rfl rfl rfl ?_
      | refine TL_val (rr_neq rfl rfl (decide_eq_true (by omega))) rfl rfl rfl ?_
      | refine TL_val (rr_neq rfl rfl (decide_eq_false (by omega))) rfl rfl rfl ?_
      | refine TL_val (rr_add64 rfl rfl (by omega) (by omega) rfl) rfl rfl rfl ?_
      | refine TL_skip rfl rfl rfl rfl rfl rfl ?_
      | refine TL_gval (rr_move rfl) rfl rfl rfl rfl rfl ?_
      | refine TL_gval (rr_pickT rfl rfl) rfl rfl rfl rfl rfl ?_
      | refine TL_gval (rr_pickF rfl rfl) rfl rfl rfl rfl rfl ?_
      | refine TL_gval (rr_lss rfl rfl (decide_eq_true (by omega))) rfl rfl rfl rfl rfl ?_
      | refine TL_gval (rr_lss rfl rfl (decide_eq_false (by omega))) rfl rfl rfl rfl rfl ?_
      | refine TL_gval (rr_gtr rfl rfl (decide_eq_true (by omega))) rfl rfl rfl rfl rfl ?_
      | refine TL_gval (rr_gtr rfl rfl (decide_eq_false (by omega))) rfl rfl rfl rfl rfl ?_)
    exact E_retc3 (i := 0) rfl rfl rfl rfl rfl rfl fun w hm => hm.ret
  obtain ⟨b0, h0, e0⟩ := bi_get s (i := 0) (by omega)
  have l0 := b0.toNat_lt
  by_cases c1 : b0.toNat < 1
  · rw [if_pos (by omega)]
    repeat (first
      | refine TL_val (rr_move rfl) rfl rfl rfl ?_
      | refine TL_val (rr_assign rfl) rfl rfl rfl ?_
      | refine TL_nil ?_
      | refine T_seq ?_
      | refine T_region ?_
      | refine T_condT rfl ?_
      | refine T_condF rfl ?_
      | refine T_skip ?_
      | refine T_ret ?_
      | refine E_then ?_
      | refine E_thenR ?_
      | refine TL_val (rr_stridx Und.eq rfl rfl (by omega) h0) rfl rfl rfl ?_
      | refine TL_val (rr_build rfl build_fr0) rfl rfl rfl ?_
      | refine TL_val (rr_pickT rfl rfl) rfl rfl rfl ?_
      | refine TL_val (rr_pickF rfl rfl) rfl rfl rfl ?_
      | refine TL_val (rr_strlen Und.eq rfl) rfl rfl rfl ?_
      | refine TL_val (rr_lss rfl rfl (decide_eq_true (by omega))) rfl rfl rfl ?_
      | refine TL_val (rr_lss rfl rfl (decide_eq_false (by omega))) rfl rfl rfl ?_
      | refine TL_val (rr_gtr rfl rfl (decide_eq_true (by omega))) rfl rfl rfl ?_
      | refine TL_val (rr_gtr rfl rfl (decide_eq_false (by omega))) rfl rfl rfl ?_
      | refine TL_val (rr_neq rfl rfl (decide_eq_true (by omega))) rfl rfl rfl ?_
      | refine TL_val (rr_neq rfl rfl (decide_eq_false (by omega))) rfl rfl rfl ?_
      | refine TL_val (rr_add64 rfl rfl (by omega) (by omega) rfl) rfl rfl rfl ?_
      | refine TL_skip rfl rfl rfl rfl rfl rfl ?_
      | refine TL_gval (rr_stridx Und.eq rfl rfl (by omega) h0) rfl rfl rfl rfl rfl ?_
      | refine TL_gval (rr_move rfl) rfl rfl rfl rfl rfl ?_
      | refine TL_gval (rr_pickT rfl rfl) rfl rfl rfl rfl rfl ?_
      | refine TL_gval (rr_pickF rfl rfl) rfl rfl rfl rfl rfl ?_
      | refine TL_gval (rr_lss rfl rfl (decide_eq_true (by omega))) rfl rfl rfl rfl rfl ?_
      | refine TL_gval (rr_lss rfl rfl (decide_eq_false (by omega))) rfl rfl rfl rfl rfl ?_
      | refine TL_gval (rr_gtr rfl rfl (decide_eq_true (by omega))) rfl rfl rfl rfl rfl ?_
      | refine TL_gval (rr_gtr rfl rfl (decide_eq_false (by omega))) rfl rfl rfl rfl rfl ?_)
    refine TL_storeB (i := 0) rfl rfl rfl rfl rfl rfl ?_
    repeat (first
      | refine TL_val (rr_move rfl) rfl rfl rfl ?_
      | refine TL_val (rr_assign rfl) rfl rfl rfl ?_
      | refine TL_nil ?_
      | refine T_seq ?_
      | refine T_region ?_
      | refine T_condT rfl ?_
      | refine T_condF rfl ?_
      | refine T_skip ?_
      | refine T_ret ?_
      | refine E_then ?_
      | refine E_thenR ?_
      | refine TL_val (rr_pickT rfl rfl) rfl rfl rfl ?_
      | refine TL_val (rr_pickF rfl rfl) rfl rfl rfl ?_
      | refine TL_val (rr_strlen Und.eq rfl) rfl rfl rfl ?_
      | refine TL_val (rr_lss rfl rfl (decide_eq_true (by omega))) rfl rfl rfl ?_
      | refine TL_val (rr_lss rfl rfl (decide_eq_false (by omega))) rfl rfl rfl ?_
      | refine TL_val (rr_gtr rfl rfl (decide_eq_true (by omega))) rfl rfl rfl ?_
      | refine TL_val (rr_gtr rfl rfl (decide_eq_false (by omega))) rfl rfl rfl ?_
      | refine TL_val (rr_neq rfl rfl (decide_eq_true (by omega))) rfl rfl rfl ?_
      | refine TL_val (rr_neq rfl rfl (decide_eq_false (by omega))) rfl rfl rfl ?_
      | refine TL_val (rr_add64 rfl rfl (by omega) (by omega) rfl) rfl rfl rfl ?_
      | refine TL_skip rfl rfl rfl rfl rfl rfl ?_
      | refine TL_gval (rr_move rfl) rfl rfl rfl rfl rfl ?_
      | refine TL_gval (rr_pickT rfl rfl) rfl rfl rfl rfl rfl ?_
      | refine TL_gval (rr_pickF rfl rfl) rfl rfl rfl rfl rfl ?_
      | refine TL_gval (rr_lss rfl rfl (decide_eq_true (by omega))) rfl rfl rfl rfl rfl ?_
      | refine TL_gval (rr_lss rfl rfl (decide_eq_false (by omega))) rfl rfl rfl rfl rfl ?_
      | refine TL_gval (rr_gtr rfl rfl (decide_eq_true (by omega))) rfl rfl rfl rfl rfl ?_
      | refine TL_gval (rr_gtr rfl rfl (decide_eq_false (by omega))) rfl rfl rfl rfl rfl ?_)
    exact E_retc3 (i := 0) rfl rfl rfl rfl rfl rfl fun w hm => hm.ret
  by_cases c2 : 9 < b0.toNat
  · rw [if_pos (by omega)]
    repeat (first
      | refine TL_val (rr_move rfl) rfl rfl rfl ?_
      | refine TL_val (rr_assign rfl) rfl rfl rfl ?_
      | refine TL_nil ?_
      | refine T_seq ?_
      | refine T_region ?_
      | refine T_condT rfl ?_
      | refine T_condF rfl ?_
      | refine T_skip ?_
      | refine T_ret ?_
      | refine E_then ?_
      | refine E_thenR ?_
      | refine TL_val (rr_stridx Und.eq rfl rfl (by omega) h0) rfl rfl rfl ?_
      | refine TL_val (rr_build rfl build_fr0) rfl rfl rfl ?_
      | refine TL_val (rr_pickT rfl rfl) rfl rfl rfl ?_
      | refine TL_val (rr_pickF rfl rfl) rfl rfl rfl ?_
      | refine TL_val (rr_strlen Und.eq rfl) rfl rfl rfl ?_
      | refine TL_val (rr_lss rfl rfl (decide_eq_true (by omega))) rfl rfl rfl ?_
      | refine TL_val (rr_lss rfl rfl (decide_eq_false (by omega))) rfl rfl rfl ?_
      | refine TL_val (rr_gtr rfl rfl (decide_eq_true (by omega))) rfl rfl rfl ?_
      | refine TL_val (rr_gtr rfl rfl (decide_eq_false (by omega))) rfl rfl rfl ?_
      | refine TL_val (rr_neq rfl rfl (decide_eq_true (by omega))) rfl rfl rfl ?_
      | refine TL_val (rr_neq rfl rfl (decide_eq_false (by omega))) rfl rfl rfl ?_
      | refine TL_val (rr_add64 rfl rfl (by omega) (by omega) rfl) rfl rfl rfl ?_
      | refine TL_skip rfl rfl rfl rfl rfl rfl ?_
      | refine TL_gval (rr_stridx Und.eq rfl rfl (by omega) h0) rfl rfl rfl rfl rfl ?_
      | refine TL_gval (rr_move rfl) rfl rfl rfl rfl rfl ?_
      | refine TL_gval (rr_pickT rfl rfl) rfl rfl rfl rfl rfl ?_
      | refine TL_gval (rr_pickF rfl rfl) rfl rfl rfl rfl rfl ?_
      | refine TL_gval (rr_lss rfl rfl (decide_eq_true (by omega))) rfl rfl rfl rfl rfl ?_
      | refine TL_gval (rr_lss rfl rfl (decide_eq_false (by omega))) rfl rfl rfl rfl rfl ?_
      | refine TL_gval (rr_gtr rfl rfl (decide_eq_true (by omega))) rfl rfl rfl rfl rfl ?_
      | refine TL_gval (rr_gtr rfl rfl (decide_eq_false (by omega))) rfl rfl rfl rfl rfl ?_)
    refine TL_storeB (i := 0) rfl rfl rfl rfl rfl rfl ?_
    repeat (first
      | refine TL_val (rr_move rfl) rfl rfl rfl ?_
      | refine TL_val (rr_assign rfl) rfl rfl rfl ?_
      | refine TL_nil ?_
      | refine T_seq ?_
      | refine T_region ?_
      | refine T_condT rfl ?_
      | refine T_condF rfl ?_
      | refine T_skip ?_
      | refine T_ret ?_
      | refine E_then ?_
      | refine E_thenR ?_
      | refine TL_val (rr_pickT rfl rfl) rfl rfl rfl ?_
      | refine TL_val (rr_pickF rfl rfl) rfl rfl rfl ?_
      | refine TL_val (rr_strlen Und.eq rfl) rfl rfl rfl ?_
      | refine TL_val (rr_lss rfl rfl (decide_eq_true (by omega))) rfl rfl rfl ?_
      | refine TL_val (rr_lss rfl rfl (decide_eq_false (by omega))) rfl rfl rfl ?_
      | refine TL_val (rr_gtr rfl rfl (decide_eq_true (by omega))) rfl rfl rfl ?_
      | refine TL_val (rr_gtr rfl rfl (decide_eq_false (by omega))) rfl rfl rfl ?_
      | refine TL_val (rr_neq rfl rfl (decide_eq_true (by omega))) rfl rfl rfl ?_
      | refine TL_val (rr_neq rfl rfl (decide_eq_false (by omega))) rfl rfl rfl ?_
      | refine TL_val (rr_add64 rfl rfl (by omega) (by omega) rfl) rfl rfl rfl ?_
      | refine TL_skip rfl rfl rfl rfl rfl rfl ?_
      | refine TL_gval (rr_move rfl) rfl rfl rfl rfl rfl ?_
      | refine TL_gval (rr_pickT rfl rfl) rfl rfl rfl rfl rfl ?_
      | refine TL_gval (rr_pickF rfl rfl) rfl rfl rfl rfl rfl ?_
      | refine TL_gval (rr_lss rfl rfl (decide_eq_true (by omega))) rfl rfl rfl rfl rfl ?_
      | refine TL_gval (rr_lss rfl rfl (decide_eq_false (by omega))) rfl rfl rfl rfl rfl ?_
      | refine TL_gval (rr_gtr rfl rfl (decide_eq_true (by omega))) rfl rfl rfl rfl rfl ?_
      | refine TL_gval (rr_gtr rfl rfl (decide_eq_false (by omega))) rfl rfl rfl rfl rfl ?_)
    exact E_retc3 (i := 0) rfl rfl rfl rfl rfl rfl fun w hm => hm.ret
  rw [if_neg (by omega)]
  by_cases c3 : s.length < 4
  · rw [if_pos c3]
    repeat (first
      | refine TL_val (rr_move rfl) rfl rfl rfl ?_
      | refine TL_val (rr_assign rfl) rfl rfl rfl ?_
      | refine TL_nil ?_
      | refine T_seq ?_
      | refine T_region ?_
      | refine T_condT rfl ?_
      | refine T_condF rfl ?_
      | refine T_skip ?_
      | refine T_ret ?_
      | refine E_then ?_
      | refine E_thenR ?_
      | refine TL_val (rr_stridx Und.eq rfl rfl (by omega) h0) rfl rfl rfl ?_
      | refine TL_val (rr_build rfl build_fr0) rfl rfl rfl ?_
      | refine TL_val (rr_pickT rfl rfl) rfl rfl rfl ?_
      | refine TL_val (rr_pickF rfl rfl) rfl rfl rfl ?_
      | refine TL_val (rr_strlen Und.eq rfl) rfl rfl rfl ?_
      | refine TL_val (rr_lss rfl rfl (decide_eq_true (by omega))) rfl rfl rfl ?_
      | refine TL_val (rr_lss rfl rfl (decide_eq_false (by omega))) rfl rfl rfl ?_
      | refine TL_val (rr_gtr rfl rfl (decide_eq_true (by omega))) rfl rfl rfl ?_
      | refine TL_val (rr_gtr rfl rfl (decide_eq_false (by omega))) rfl rfl rfl ?_
      | refine TL_val (rr_neq rfl rfl (decide_eq_true (by omega))) rfl rfl rfl ?_
      | refine TL_val (rr_neq rfl rfl (decide_eq_false (by omega))) rfl rfl rfl ?_
      | refine TL_val (rr_add64 rfl rfl (by omega) (by omega) rfl) rfl rfl rfl ?_
      | refine TL_skip rfl rfl rfl rfl rfl rfl ?_
      | refine TL_gval (rr_stridx Und.eq rfl rfl (by omega) h0) rfl rfl rfl rfl rfl ?_
      | refine TL_gval (rr_move rfl) rfl rfl rfl rfl rfl ?_
      | refine TL_gval (rr_pickT rfl rfl) rfl rfl rfl rfl rfl ?_
      | refine TL_gval (rr_pickF rfl rfl) rfl rfl rfl rfl rfl ?_
      | refine TL_gval (rr_lss rfl rfl (decide_eq_true (by omega))) rfl rfl rfl rfl rfl ?_
      | refine TL_gval (rr_lss rfl rfl (decide_eq_false (by omega))) rfl rfl rfl rfl rfl ?_
      | refine TL_gval (rr_gtr rfl rfl (decide_eq_true (by omega))) rfl rfl rfl rfl rfl ?_
      | refine TL_gval (rr_gtr rfl rfl (decide_eq_false (by omega))) rfl rfl rfl rfl rfl ?_)
    refine TL_storeB (i := 0) rfl rfl rfl rfl rfl rfl ?_
    repeat (first
      | refine TL_val (rr_move rfl) rfl rfl rfl ?_
      | refine TL_val (rr_assign rfl) rfl rfl rfl ?_
      | refine TL_nil ?_
      | refine T_seq ?_
      | refine T_region ?_
      | refine T_condT rfl ?_
      | refine T_condF rfl ?_
      | refine T_skip ?_
      | refine T_ret ?_
      | refine E_then ?_
      | refine E_thenR ?_
      | refine TL_val (rr_pickT rfl rfl) rfl rfl rfl ?_
      | refine TL_val (rr_pickF rfl rfl) rfl rfl rfl ?_
      | refine TL_val (rr_strlen Und.eq rfl) rfl rfl rfl ?_
      | refine TL_val (rr_lss rfl rfl (decide_eq_true (by omega))) rfl rfl rfl ?_
      | refine TL_val (rr_lss rfl rfl (decide_eq_false (by omega))) rfl rfl rfl ?_
      | refine TL_val (rr_gtr rfl rfl (decide_eq_true (by omega))) rfl rfl rfl ?_
      | refine TL_val (rr_gtr rfl rfl (decide_eq_false (by omega))) rfl rfl rfl ?_
      | refine TL_val (rr_neq rfl rfl (decide_eq_true (by omega))) rfl rfl rfl ?_
      | refine TL_val (rr_neq rfl rfl (decide_eq_false (by omega))) rfl rfl rfl ?_
      | refine TL_val (rr_add64 rfl rfl (by omega) (by omega) rfl) rfl rfl rfl ?_
      | refine TL_skip rfl rfl rfl rfl rfl rfl ?_
      | refine TL_gval (rr_move rfl) rfl rfl rfl rfl rfl ?_
      | refine TL_gval (rr_pickT rfl rfl) rfl rfl rfl rfl rfl ?_
      | refine TL_gval (rr_pickF rfl rfl) rfl rfl rfl rfl rfl ?_
      | refine TL_gval (rr_lss rfl rfl (decide_eq_true (by omega))) rfl rfl rfl rfl rfl ?_
      | refine TL_gval (rr_lss rfl rfl (decide_eq_false (by omega))) rfl rfl rfl rfl rfl ?_
      | refine TL_gval (rr_gtr rfl rfl (decide_eq_true (by omega))) rfl rfl rfl rfl rfl ?_
      | refine TL_gval (rr_gtr rfl rfl (decide_eq_false (by omega))) rfl rfl rfl rfl rfl ?_)
    exact E_retc3 (i := 0) rfl rfl rfl rfl rfl rfl fun w hm => hm.ret
  rw [if_neg c3]
  repeat (first
    | refine TL_val (rr_move rfl) rfl rfl rfl ?_
    | refine TL_val (rr_assign rfl) rfl rfl rfl ?_
    | refine TL_nil ?_
    | refine T_seq ?_
    | refine T_region ?_
    | refine T_condT rfl ?_
    | refine T_condF rfl ?_
    | refine T_skip ?_
    | refine T_ret ?_
    | refine E_then ?_
    | refine E_thenR ?_
    | refine TL_val (rr_stridx Und.eq rfl rfl (by omega) h0) rfl rfl rfl ?_
    | refine TL_val (rr_pickT rfl rfl) rfl rfl rfl ?_
    | refine TL_val (rr_pickF rfl rfl) rfl rfl rfl ?_
    | refine TL_val (rr_strlen Und.eq rfl) rfl rfl rfl ?_
    | refine TL_val (rr_lss rfl rfl (decide_eq_true (by omega))) rfl rfl rfl ?_
    | refine TL_val (rr_lss rfl rfl (decide_eq_false (by omega))) rfl rfl rfl ?_
    | refine TL_val (rr_gtr rfl rfl (decide_eq_true (by omega))) rfl rfl rfl ?_
    | refine TL_val (rr_gtr rfl rfl (decide_eq_false (by omega))) rfl rfl rfl ?_
    | refine TL_val (rr_neq rfl rfl (decide_eq_true (by omega))) rfl rfl rfl ?_
    | refine TL_val (rr_neq rfl rfl (decide_eq_false (by omega))) rfl rfl rfl ?_
    | refine TL_val (rr_add64 rfl rfl (by omega) (by omega) rfl) rfl rfl rfl ?_
    | refine TL_skip rfl rfl rfl rfl rfl rfl ?_
    | refine TL_gval (rr_stridx Und.eq rfl rfl (by omega) h0) rfl rfl rfl rfl rfl ?_
    | refine TL_gval (rr_move rfl) rfl rfl rfl rfl rfl ?_
    | refine TL_gval (rr_pickT rfl rfl) rfl rfl rfl rfl rfl ?_
    | refine TL_gval (rr_pickF rfl rfl) rfl rfl rfl rfl rfl ?_
    | refine TL_gval (rr_lss rfl rfl (decide_eq_true (by omega))) rfl rfl rfl rfl rfl ?_
    | refine TL_gval (rr_lss rfl rfl (decide_eq_false (by omega))) rfl rfl rfl rfl rfl ?_
    | refine TL_gval (rr_gtr rfl rfl (decide_eq_true (by omega))) rfl rfl rfl rfl rfl ?_
    | refine TL_gval (rr_gtr rfl rfl (decide_eq_false (by omega))) rfl rfl rfl rfl rfl ?_)
  obtain ⟨b1, h1, e1⟩ := bi_get s (i := 1) (by omega)
  obtain ⟨b2, h2, e2⟩ := bi_get s (i := 2) (by omega)
  obtain ⟨b3, h3, e3⟩ := bi_get s (i := 3) (by omega)
  have hor := or_nn e2 e3
  generalize hN : nn s = N at *
  have hNle : N < 65536 := by rw [← hN, nn]; have := bi_lt s 2; have := bi_lt s 3; omega
  refine T_draw 8 (List.replicate 8 true) rfl (by kernel_rfl) (by kernel_rfl) (by intro c a d v w h; cases d <;> exact h) ?_
  repeat (first
    | refine TM_val (rr_move rfl) rfl rfl rfl ?_
    | refine TM_val (rr_assign rfl) rfl rfl rfl ?_
    | refine TM_val (rr_stridx Und.eq rfl rfl (by omega) h2) rfl rfl rfl ?_
    | refine TM_val (rr_stridx Und.eq rfl rfl (by omega) h3) rfl rfl rfl ?_
    | refine TM_val (rr_conv Und.eq Und.eq rfl (cv64 _)) rfl rfl rfl ?_
    | refine TM_val (rr_shl rfl rfl (sh_nn _)) rfl rfl rfl ?_
    | refine TM_val (rr_or rfl rfl hor) rfl rfl rfl ?_
    | refine TM_val (rr_pickT rfl rfl) rfl rfl rfl ?_
    | refine TM_val (rr_pickF rfl rfl) rfl rfl rfl ?_
    | refine TM_val (rr_strlen Und.eq rfl) rfl rfl rfl ?_
    | refine TM_val (rr_lss rfl rfl (decide_eq_true (by omega))) rfl rfl rfl ?_
    | refine TM_val (rr_lss rfl rfl (decide_eq_false (by omega))) rfl rfl rfl ?_
    | refine TM_val (rr_gtr rfl rfl (decide_eq_true (by omega))) rfl rfl rfl ?_
    | refine TM_val (rr_gtr rfl rfl (decide_eq_false (by omega))) rfl rfl rfl ?_
    | refine TM_val (rr_neq rfl rfl (decide_eq_true (by omega))) rfl rfl rfl ?_
    | refine TM_val (rr_neq rfl rfl (decide_eq_false (by omega))) rfl rfl rfl ?_
    | refine TM_val (rr_add64 rfl rfl (by omega) (by omega) rfl) rfl rfl rfl ?_
    | refine TM_skip rfl rfl rfl rfl rfl rfl ?_
    | refine TM_gval (rr_stridx Und.eq rfl rfl (by omega) h2) rfl rfl rfl rfl rfl ?_
    | refine TM_gval (rr_stridx Und.eq rfl rfl (by omega) h3) rfl rfl rfl rfl rfl ?_
    | refine TM_gval (rr_move rfl) rfl rfl rfl rfl rfl ?_
    | refine TM_gval (rr_pickT rfl rfl) rfl rfl rfl rfl rfl ?_
    | refine TM_gval (rr_pickF rfl rfl) rfl rfl rfl rfl rfl ?_
    | refine TM_gval (rr_lss rfl rfl (decide_eq_true (by omega))) rfl rfl rfl rfl rfl ?_
    | refine TM_gval (rr_lss rfl rfl (decide_eq_false (by omega))) rfl rfl rfl rfl rfl ?_
    | refine TM_gval (rr_gtr rfl rfl (decide_eq_true (by omega))) rfl rfl rfl rfl rfl ?_
    | refine TM_gval (rr_gtr rfl rfl (decide_eq_false (by omega))) rfl rfl rfl rfl rfl ?_
    | refine TM_end ?_)
  clear hor
  by_cases c4 : 1024 < N
  · rw [if_pos c4]
    repeat (first
      | refine TL_val (rr_move rfl) rfl rfl rfl ?_
      | refine TL_val (rr_assign rfl) rfl rfl rfl ?_
      | refine TL_nil ?_
      | refine T_seq ?_
      | refine T_region ?_
      | refine T_condT rfl ?_
      | refine T_condF rfl ?_
      | refine T_skip ?_
      | refine T_ret ?_
      | refine E_then ?_
      | refine E_thenR ?_
      | refine TL_val (rr_build rfl build_fr0) rfl rfl rfl ?_
      | refine TL_val (rr_pickT rfl rfl) rfl rfl rfl ?_
      | refine TL_val (rr_pickF rfl rfl) rfl rfl rfl ?_
      | refine TL_val (rr_strlen Und.eq rfl) rfl rfl rfl ?_
      | refine TL_val (rr_lss rfl rfl (decide_eq_true (by omega))) rfl rfl rfl ?_
      | refine TL_val (rr_lss rfl rfl (decide_eq_false (by omega))) rfl rfl rfl ?_
      | refine TL_val (rr_gtr rfl rfl (decide_eq_true (by omega))) rfl rfl rfl ?_
      | refine TL_val (rr_gtr rfl rfl (decide_eq_false (by omega))) rfl rfl rfl ?_
      | refine TL_val (rr_neq rfl rfl (decide_eq_true (by omega))) rfl rfl rfl ?_
      | refine TL_val (rr_neq rfl rfl (decide_eq_false (by omega))) rfl rfl rfl ?_
      | refine TL_val (rr_add64 rfl rfl (by omega) (by omega) rfl) rfl rfl rfl ?_
      | refine TL_skip rfl rfl rfl rfl rfl rfl ?_
      | refine TL_gval (rr_move rfl) rfl rfl rfl rfl rfl ?_
      | refine TL_gval (rr_pickT rfl rfl) rfl rfl rfl rfl rfl ?_
      | refine TL_gval (rr_pickF rfl rfl) rfl rfl rfl rfl rfl ?_
      | refine TL_gval (rr_lss rfl rfl (decide_eq_true (by omega))) rfl rfl rfl rfl rfl ?_
      | refine TL_gval (rr_lss rfl rfl (decide_eq_false (by omega))) rfl rfl rfl rfl rfl ?_
      | refine TL_gval (rr_gtr rfl rfl (decide_eq_true (by omega))) rfl rfl rfl rfl rfl ?_
      | refine TL_gval (rr_gtr rfl rfl (decide_eq_false (by omega))) rfl rfl rfl rfl rfl ?_)
    refine TL_storeB (i := 0) rfl rfl rfl rfl rfl rfl ?_
    repeat (first
      | refine TL_val (rr_move rfl) rfl rfl rfl ?_
      | refine TL_val (rr_assign rfl) rfl rfl rfl ?_
      | refine TL_nil ?_
      | refine T_seq ?_
      | refine T_region ?_
      | refine T_condT rfl ?_
      | refine T_condF rfl ?_
      | refine T_skip ?_
      | refine T_ret ?_
      | refine E_then ?_
      | refine E_thenR ?_
      | refine TL_val (rr_pickT rfl rfl) rfl rfl rfl ?_
      | refine TL_val (rr_pickF rfl rfl) rfl rfl rfl ?_
      | refine TL_val (rr_strlen Und.eq rfl) rfl rfl rfl ?_
      | refine TL_val (rr_lss rfl rfl (decide_eq_true (by omega))) rfl rfl rfl ?_
      | refine TL_val (rr_lss rfl rfl (decide_eq_false (by omega))) rfl rfl rfl ?_
      | refine TL_val (rr_gtr rfl rfl (decide_eq_true (by omega))) rfl rfl rfl ?_
      | refine TL_val (rr_gtr rfl rfl (decide_eq_false (by omega))) rfl rfl rfl ?_
      | refine TL_val (rr_neq rfl rfl (decide_eq_true (by omega))) rfl rfl rfl ?_
      | refine TL_val (rr_neq rfl rfl (decide_eq_false (by omega))) rfl rfl rfl ?_
      | refine TL_val (rr_add64 rfl rfl (by omega) (by omega) rfl) rfl rfl rfl ?_
      | refine TL_skip rfl rfl rfl rfl rfl rfl ?_
      | refine TL_gval (rr_move rfl) rfl rfl rfl rfl rfl ?_
      | refine TL_gval (rr_pickT rfl rfl) rfl rfl rfl rfl rfl ?_
      | refine TL_gval (rr_pickF rfl rfl) rfl rfl rfl rfl rfl ?_
      | refine TL_gval (rr_lss rfl rfl (decide_eq_true (by omega))) rfl rfl rfl rfl rfl ?_
      | refine TL_gval (rr_lss rfl rfl (decide_eq_false (by omega))) rfl rfl rfl rfl rfl ?_
      | refine TL_gval (rr_gtr rfl rfl (decide_eq_true (by omega))) rfl rfl rfl rfl rfl ?_
      | refine TL_gval (rr_gtr rfl rfl (decide_eq_false (by omega))) rfl rfl rfl rfl rfl ?_)
    exact E_retc3 (i := 0) rfl rfl rfl rfl rfl rfl fun w hm => hm.ret
  rw [if_neg c4]
  by_cases c5 : s.length < N + 8
  · rw [if_pos c5]
    repeat (first
      | refine TL_val (rr_move rfl) rfl rfl rfl ?_
      | refine TL_val (rr_assign rfl) rfl rfl rfl ?_
      | refine TL_nil ?_
      | refine T_seq ?_
      | refine T_region ?_
      | refine T_condT rfl ?_
      | refine T_condF rfl ?_
      | refine T_skip ?_
      | refine T_ret ?_
      | refine E_then ?_
      | refine E_thenR ?_
      | refine TL_val (rr_build rfl build_fr0) rfl rfl rfl ?_
      | refine TL_val (rr_pickT rfl rfl) rfl rfl rfl ?_
      | refine TL_val (rr_pickF rfl rfl) rfl rfl rfl ?_
      | refine TL_val (rr_strlen Und.eq rfl) rfl rfl rfl ?_
      | refine TL_val (rr_lss rfl rfl (decide_eq_true (by omega))) rfl rfl rfl ?_
      | refine TL_val (rr_lss rfl rfl (decide_eq_false (by omega))) rfl rfl rfl ?_
      | refine TL_val (rr_gtr rfl rfl (decide_eq_true (by omega))) rfl rfl rfl ?_
      | refine TL_val (rr_gtr rfl rfl (decide_eq_false (by omega))) rfl rfl rfl ?_
      | refine TL_val (rr_neq rfl rfl (decide_eq_true (by omega))) rfl rfl rfl ?_
      | refine TL_val (rr_neq rfl rfl (decide_eq_false (by omega))) rfl rfl rfl ?_
      | refine TL_val (rr_add64 rfl rfl (by omega) (by omega) rfl) rfl rfl rfl ?_
      | refine TL_skip rfl rfl rfl rfl rfl rfl ?_
      | refine TL_gval (rr_move rfl) rfl rfl rfl rfl rfl ?_
      | refine TL_gval (rr_pickT rfl rfl) rfl rfl rfl rfl rfl ?_
      | refine TL_gval (rr_pickF rfl rfl) rfl rfl rfl rfl rfl ?_
      | refine TL_gval (rr_lss rfl rfl (decide_eq_true (by omega))) rfl rfl rfl rfl rfl ?_
      | refine TL_gval (rr_lss rfl rfl (decide_eq_false (by omega))) rfl rfl rfl rfl rfl ?_
      | refine TL_gval (rr_gtr rfl rfl (decide_eq_true (by omega))) rfl rfl rfl rfl rfl ?_
      | refine TL_gval (rr_gtr rfl rfl (decide_eq_false (by omega))) rfl rfl rfl rfl rfl ?_)
    refine TL_storeB (i := 0) rfl rfl rfl rfl rfl rfl ?_
    repeat (first
      | refine TL_val (rr_move rfl) rfl rfl rfl ?_
      | refine TL_val (rr_assign rfl) rfl rfl rfl ?_
      | refine TL_nil ?_
      | refine T_seq ?_
      | refine T_region ?_
      | refine T_condT rfl ?_
      | refine T_condF rfl ?_
      | refine T_skip ?_
      | refine T_ret ?_
      | refine E_then ?_
      | refine E_thenR ?_
      | refine TL_val (rr_pickT rfl rfl) rfl rfl rfl ?_
      | refine TL_val (rr_pickF rfl rfl) rfl rfl rfl ?_
      | refine TL_val (rr_strlen Und.eq rfl) rfl rfl rfl ?_
      | refine TL_val (rr_lss rfl rfl (decide_eq_true (by omega))) rfl rfl rfl ?_
      | refine TL_val (rr_lss rfl rfl (decide_eq_false (by omega))) rfl rfl rfl ?_
      | refine TL_val (rr_gtr rfl rfl (decide_eq_true (by omega))) rfl rfl rfl ?_
      | refine TL_val (rr_gtr rfl rfl (decide_eq_false (by omega))) rfl rfl rfl ?_
      | refine TL_val (rr_neq rfl rfl (decide_eq_true (by omega))) rfl rfl rfl ?_
      | refine TL_val (rr_neq rfl rfl (decide_eq_false (by omega))) rfl rfl rfl ?_
      | refine TL_val (rr_add64 rfl rfl (by omega) (by omega) rfl) rfl rfl rfl ?_
      | refine TL_skip rfl rfl rfl rfl rfl rfl ?_
      | refine TL_gval (rr_move rfl) rfl rfl rfl rfl rfl ?_
      | refine TL_gval (rr_pickT rfl rfl) rfl rfl rfl rfl rfl ?_
      | refine TL_gval (rr_pickF rfl rfl) rfl rfl rfl rfl rfl ?_
      | refine TL_gval (rr_lss rfl rfl (decide_eq_true (by omega))) rfl rfl rfl rfl rfl ?_
      | refine TL_gval (rr_lss rfl rfl (decide_eq_false (by omega))) rfl rfl rfl rfl rfl ?_
      | refine TL_gval (rr_gtr rfl rfl (decide_eq_true (by omega))) rfl rfl rfl rfl rfl ?_
      | refine TL_gval (rr_gtr rfl rfl (decide_eq_false (by omega))) rfl rfl rfl rfl rfl ?_)
    exact E_retc3 (i := 0) rfl rfl rfl rfl rfl rfl fun w hm => hm.ret
  rw [if_neg c5]
  have hsum := fun w => sumE (s.take (N + 4)) w (by simp; omega)
  have hdl : (s.drop (N + 4)).length = s.length - (N + 4) := List.length_drop
  have hcl := (crc (s.take (N + 4))).isLt
  generalize hc : (crc (s.take (N + 4))).toNat = c at *
  generalize hd : s.drop (N + 4) = d at *
  obtain ⟨x0, i0, j0⟩ := bi_get d (i := 0) (by omega)
  obtain ⟨x1, i1, j1⟩ := bi_get d (i := 1) (by omega)
  obtain ⟨x2, i2, j2⟩ := bi_get d (i := 2) (by omega)
  obtain ⟨x3, i3, j3⟩ := bi_get d (i := 3) (by omega)
  have hor1 := or8_1 x0 x1
  have hor2 := or8_2 x0 x1 x2
  have hor3 := or8_3 x0 x1 x2 x3
  have hle : le4 d = 2 ^ 24 * x3.toNat + (2 ^ 16 * x2.toNat + (2 ^ 8 * x1.toNat + x0.toNat)) := by unfold le4; rw [j0, j1, j2, j3]; omega
  generalize hq : 2 ^ 24 * x3.toNat + (2 ^ 16 * x2.toNat + (2 ^ 8 * x1.toNat + x0.toNat)) = q at *
  rw [hle]
  repeat (first
    | refine TL_val (rr_move rfl) rfl rfl rfl ?_
    | refine TL_val (rr_assign rfl) rfl rfl rfl ?_
    | refine TL_nil ?_
    | refine T_seq ?_
    | refine T_region ?_
    | refine T_condT rfl ?_
    | refine T_condF rfl ?_
    | refine T_skip ?_
    | refine T_ret ?_
    | refine E_then ?_
    | refine E_thenR ?_
    | refine TL_val (rr_pickT rfl rfl) rfl rfl rfl ?_
    | refine TL_val (rr_pickF rfl rfl) rfl rfl rfl ?_
    | refine TL_val (rr_strlen Und.eq rfl) rfl rfl rfl ?_
    | refine TL_val (rr_lss rfl rfl (decide_eq_true (by omega))) rfl rfl rfl ?_
    | refine TL_val (rr_lss rfl rfl (decide_eq_false (by omega))) rfl rfl rfl ?_
    | refine TL_val (rr_gtr rfl rfl (decide_eq_true (by omega))) rfl rfl rfl ?_
    | refine TL_val (rr_gtr rfl rfl (decide_eq_false (by omega))) rfl rfl rfl ?_
    | refine TL_val (rr_neq rfl rfl (decide_eq_true (by omega))) rfl rfl rfl ?_
    | refine TL_val (rr_neq rfl rfl (decide_eq_false (by omega))) rfl rfl rfl ?_
    | refine TL_val (rr_add64 rfl rfl (by omega) (by omega) rfl) rfl rfl rfl ?_
    | refine TL_skip rfl rfl rfl rfl rfl rfl ?_
    | refine TL_gval (rr_move rfl) rfl rfl rfl rfl rfl ?_
    | refine TL_gval (rr_pickT rfl rfl) rfl rfl rfl rfl rfl ?_
    | refine TL_gval (rr_pickF rfl rfl) rfl rfl rfl rfl rfl ?_
    | refine TL_gval (rr_lss rfl rfl (decide_eq_true (by omega))) rfl rfl rfl rfl rfl ?_
    | refine TL_gval (rr_lss rfl rfl (decide_eq_false (by omega))) rfl rfl rfl rfl rfl ?_
    | refine TL_gval (rr_gtr rfl rfl (decide_eq_true (by omega))) rfl rfl rfl rfl rfl ?_
    | refine TL_gval (rr_gtr rfl rfl (decide_eq_false (by omega))) rfl rfl rfl rfl rfl ?_)
  refine T_draw 10 (List.replicate 10 true) rfl (by kernel_rfl) (by kernel_rfl) (by intro c a d v w h; cases d <;> exact h) ?_
  repeat (first
    | refine TM_val (rr_move rfl) rfl rfl rfl ?_
    | refine TM_val (rr_assign rfl) rfl rfl rfl ?_
    | refine TM_val (rr_add64 (r := ((N + 4 : Nat) : Int)) rfl rfl (by omega) (by omega) (by omega)) rfl rfl rfl ?_
    | refine TM_val (rr_strupto Und.eq rfl rfl (by omega)) rfl rfl rfl ?_
    | refine TM_val (rr_pickT rfl rfl) rfl rfl rfl ?_
    | refine TM_val (rr_pickF rfl rfl) rfl rfl rfl ?_
    | refine TM_val (rr_strlen Und.eq rfl) rfl rfl rfl ?_
    | refine TM_val (rr_lss rfl rfl (decide_eq_true (by omega))) rfl rfl rfl ?_
    | refine TM_val (rr_lss rfl rfl (decide_eq_false (by omega))) rfl rfl rfl ?_
    | refine TM_val (rr_gtr rfl rfl (decide_eq_true (by omega))) rfl rfl rfl ?_
    | refine TM_val (rr_gtr rfl rfl (decide_eq_false (by omega))) rfl rfl rfl ?_
    | refine TM_val (rr_neq rfl rfl (decide_eq_true (by omega))) rfl rfl rfl ?_
    | refine TM_val (rr_neq rfl rfl (decide_eq_false (by omega))) rfl rfl rfl ?_
    | refine TM_val (rr_add64 rfl rfl (by omega) (by omega) rfl) rfl rfl rfl ?_
    | refine TM_skip rfl rfl rfl rfl rfl rfl ?_
    | refine TM_gval (rr_move rfl) rfl rfl rfl rfl rfl ?_
    | refine TM_gval (rr_pickT rfl rfl) rfl rfl rfl rfl rfl ?_
    | refine TM_gval (rr_pickF rfl rfl) rfl rfl rfl rfl rfl ?_
    | refine TM_gval (rr_lss rfl rfl (decide_eq_true (by omega))) rfl rfl rfl rfl rfl ?_
    | refine TM_gval (rr_lss rfl rfl (decide_eq_false (by omega))) rfl rfl rfl rfl rfl ?_
    | refine TM_gval (rr_gtr rfl rfl (decide_eq_true (by omega))) rfl rfl rfl rfl rfl ?_
    | refine TM_gval (rr_gtr rfl rfl (decide_eq_false (by omega))) rfl rfl rfl rfl rfl ?_
    | refine TM_end ?_)
  refine TM_call (he1 EntersC.en rfl rfl) (fun w hm => hsum _) rfl rfl rfl ?_
  repeat (first
    | refine TM_val (rr_move rfl) rfl rfl rfl ?_
    | refine TM_val (rr_assign rfl) rfl rfl rfl ?_
    | refine TM_val (rr_add64 (r := ((N + 4 : Nat) : Int)) rfl rfl (by omega) (by omega) (by omega)) rfl rfl rfl ?_
    | refine TM_val (rr_strfrom Und.eq rfl rfl (by omega)) rfl rfl rfl ?_
    | refine TM_val (rr_pickT rfl rfl) rfl rfl rfl ?_
    | refine TM_val (rr_pickF rfl rfl) rfl rfl rfl ?_
    | refine TM_val (rr_strlen Und.eq rfl) rfl rfl rfl ?_
    | refine TM_val (rr_lss rfl rfl (decide_eq_true (by omega))) rfl rfl rfl ?_
    | refine TM_val (rr_lss rfl rfl (decide_eq_false (by omega))) rfl rfl rfl ?_
    | refine TM_val (rr_gtr rfl rfl (decide_eq_true (by omega))) rfl rfl rfl ?_
    | refine TM_val (rr_gtr rfl rfl (decide_eq_false (by omega))) rfl rfl rfl ?_
    | refine TM_val (rr_neq rfl rfl (decide_eq_true (by omega))) rfl rfl rfl ?_
    | refine TM_val (rr_neq rfl rfl (decide_eq_false (by omega))) rfl rfl rfl ?_
    | refine TM_val (rr_add64 rfl rfl (by omega) (by omega) rfl) rfl rfl rfl ?_
    | refine TM_skip rfl rfl rfl rfl rfl rfl ?_
    | refine TM_gval (rr_move rfl) rfl rfl rfl rfl rfl ?_
    | refine TM_gval (rr_pickT rfl rfl) rfl rfl rfl rfl rfl ?_
    | refine TM_gval (rr_pickF rfl rfl) rfl rfl rfl rfl rfl ?_
    | refine TM_gval (rr_lss rfl rfl (decide_eq_true (by omega))) rfl rfl rfl rfl rfl ?_
    | refine TM_gval (rr_lss rfl rfl (decide_eq_false (by omega))) rfl rfl rfl rfl rfl ?_
    | refine TM_gval (rr_gtr rfl rfl (decide_eq_true (by omega))) rfl rfl rfl rfl rfl ?_
    | refine TM_gval (rr_gtr rfl rfl (decide_eq_false (by omega))) rfl rfl rfl rfl rfl ?_
    | refine TM_end ?_)
  rw [hd]
  repeat (first
    | refine TL_val (rr_move rfl) rfl rfl rfl ?_
    | refine TL_val (rr_assign rfl) rfl rfl rfl ?_
    | refine TL_nil ?_
    | refine T_seq ?_
    | refine T_region ?_
    | refine T_condT rfl ?_
    | refine T_condF rfl ?_
    | refine T_skip ?_
    | refine T_ret ?_
    | refine E_then ?_
    | refine E_thenR ?_
    | refine TL_val (rr_pickT rfl rfl) rfl rfl rfl ?_
    | refine TL_val (rr_pickF rfl rfl) rfl rfl rfl ?_
    | refine TL_val (rr_strlen Und.eq rfl) rfl rfl rfl ?_
    | refine TL_val (rr_lss rfl rfl (decide_eq_true (by omega))) rfl rfl rfl ?_
    | refine TL_val (rr_lss rfl rfl (decide_eq_false (by omega))) rfl rfl rfl ?_
    | refine TL_val (rr_gtr rfl rfl (decide_eq_true (by omega))) rfl rfl rfl ?_
    | refine TL_val (rr_gtr rfl rfl (decide_eq_false (by omega))) rfl rfl rfl ?_
    | refine TL_val (rr_neq rfl rfl (decide_eq_true (by omega))) rfl rfl rfl ?_
    | refine TL_val (rr_neq rfl rfl (decide_eq_false (by omega))) rfl rfl rfl ?_
    | refine TL_val (rr_add64 rfl rfl (by omega) (by omega) rfl) rfl rfl rfl ?_
    | refine TL_skip rfl rfl rfl rfl rfl rfl ?_
    | refine TL_gval (rr_move rfl) rfl rfl rfl rfl rfl ?_
    | refine TL_gval (rr_pickT rfl rfl) rfl rfl rfl rfl rfl ?_
    | refine TL_gval (rr_pickF rfl rfl) rfl rfl rfl rfl rfl ?_
    | refine TL_gval (rr_lss rfl rfl (decide_eq_true (by omega))) rfl rfl rfl rfl rfl ?_
    | refine TL_gval (rr_lss rfl rfl (decide_eq_false (by omega))) rfl rfl rfl rfl rfl ?_
    | refine TL_gval (rr_gtr rfl rfl (decide_eq_true (by omega))) rfl rfl rfl rfl rfl ?_
    | refine TL_gval (rr_gtr rfl rfl (decide_eq_false (by omega))) rfl rfl rfl rfl rfl ?_)
  clear hsum
  refine T_draw 19 (List.replicate 19 true) rfl (by kernel_rfl) (by kernel_rfl) (by intro c a d v w h; cases d <;> exact h) ?_
  repeat (first
    | refine TM_val (rr_move rfl) rfl rfl rfl ?_
    | refine TM_val (rr_assign rfl) rfl rfl rfl ?_
    | refine TM_val (rr_stridx Und.eq rfl rfl (by omega) i0) rfl rfl rfl ?_
    | refine TM_val (rr_stridx Und.eq rfl rfl (by omega) i1) rfl rfl rfl ?_
    | refine TM_val (rr_stridx Und.eq rfl rfl (by omega) i2) rfl rfl rfl ?_
    | refine TM_val (rr_stridx Und.eq rfl rfl (by omega) i3) rfl rfl rfl ?_
    | refine TM_val (rr_conv Und.eq Und.eq rfl (cv32 _)) rfl rfl rfl ?_
    | refine TM_val (rr_shl rfl rfl (sh8 _)) rfl rfl rfl ?_
    | refine TM_val (rr_shl rfl rfl (sh16 _)) rfl rfl rfl ?_
    | refine TM_val (rr_shl rfl rfl (sh24 _)) rfl rfl rfl ?_
    | refine TM_val (rr_or rfl rfl hor1) rfl rfl rfl ?_
    | refine TM_val (rr_or rfl rfl hor2) rfl rfl rfl ?_
    | refine TM_val (rr_or rfl rfl hor3) rfl rfl rfl ?_
    | refine TM_val (rr_pickT rfl rfl) rfl rfl rfl ?_
    | refine TM_val (rr_pickF rfl rfl) rfl rfl rfl ?_
    | refine TM_val (rr_strlen Und.eq rfl) rfl rfl rfl ?_
    | refine TM_val (rr_lss rfl rfl (decide_eq_true (by omega))) rfl rfl rfl ?_
    | refine TM_val (rr_lss rfl rfl (decide_eq_false (by omega))) rfl rfl rfl ?_
    | refine TM_val (rr_gtr rfl rfl (decide_eq_true (by omega))) rfl rfl rfl ?_
    | refine TM_val (rr_gtr rfl rfl (decide_eq_false (by omega))) rfl rfl rfl ?_
    | refine TM_val (rr_neq rfl rfl (decide_eq_true (by omega))) rfl rfl rfl ?_
    | refine TM_val (rr_neq rfl rfl (decide_eq_false (by omega))) rfl rfl rfl ?_
    | refine TM_val (rr_add64 rfl rfl (by omega) (by omega) rfl) rfl rfl rfl ?_
    | refine TM_skip rfl rfl rfl rfl rfl rfl ?_
    | refine TM_gval (rr_stridx Und.eq rfl rfl (by omega) i0) rfl rfl rfl rfl rfl ?_
    | refine TM_gval (rr_stridx Und.eq rfl rfl (by omega) i1) rfl rfl rfl rfl rfl ?_
    | refine TM_gval (rr_stridx Und.eq rfl rfl (by omega) i2) rfl rfl rfl rfl rfl ?_
    | refine TM_gval (rr_stridx Und.eq rfl rfl (by omega) i3) rfl rfl rfl rfl rfl ?_
    | refine TM_gval (rr_move rfl) rfl rfl rfl rfl rfl ?_
    | refine TM_gval (rr_pickT rfl rfl) rfl rfl rfl rfl rfl ?_
    | refine TM_gval (rr_pickF rfl rfl) rfl rfl rfl rfl rfl ?_
    | refine TM_gval (rr_lss rfl rfl (decide_eq_true (by omega))) rfl rfl rfl rfl rfl ?_
    | refine TM_gval (rr_lss rfl rfl (decide_eq_false (by omega))) rfl rfl rfl rfl rfl ?_
    | refine TM_gval (rr_gtr rfl rfl (decide_eq_true (by omega))) rfl rfl rfl rfl rfl ?_
    | refine TM_gval (rr_gtr rfl rfl (decide_eq_false (by omega))) rfl rfl rfl rfl rfl ?_
    | refine TM_end ?_)
  clear hor1 hor2 hor3
  by_cases c6 : c = q
  · rw [if_neg (by omega)]
    have hsub : (s.drop 4).take (N + 4 - 4) = (s.drop 4).take N := by rw [Nat.add_sub_cancel]
    rw [← hsub, e0, e1]
    repeat (first
      | refine TL_val (rr_move rfl) rfl rfl rfl ?_
      | refine TL_val (rr_assign rfl) rfl rfl rfl ?_
      | refine TL_nil ?_
      | refine T_seq ?_
      | refine T_region ?_
      | refine T_condT rfl ?_
      | refine T_condF rfl ?_
      | refine T_skip ?_
      | refine T_ret ?_
      | refine E_then ?_
      | refine E_thenR ?_
      | refine TL_val (rr_pickT rfl rfl) rfl rfl rfl ?_
      | refine TL_val (rr_pickF rfl rfl) rfl rfl rfl ?_
      | refine TL_val (rr_strlen Und.eq rfl) rfl rfl rfl ?_
      | refine TL_val (rr_lss rfl rfl (decide_eq_true (by omega))) rfl rfl rfl ?_
      | refine TL_val (rr_lss rfl rfl (decide_eq_false (by omega))) rfl rfl rfl ?_
      | refine TL_val (rr_gtr rfl rfl (decide_eq_true (by omega))) rfl rfl rfl ?_
      | refine TL_val (rr_gtr rfl rfl (decide_eq_false (by omega))) rfl rfl rfl ?_
      | refine TL_val (rr_neq rfl rfl (decide_eq_true (by omega))) rfl rfl rfl ?_
      | refine TL_val (rr_neq rfl rfl (decide_eq_false (by omega))) rfl rfl rfl ?_
      | refine TL_val (rr_add64 rfl rfl (by omega) (by omega) rfl) rfl rfl rfl ?_
      | refine TL_skip rfl rfl rfl rfl rfl rfl ?_
      | refine TL_gval (rr_move rfl) rfl rfl rfl rfl rfl ?_
      | refine TL_gval (rr_pickT rfl rfl) rfl rfl rfl rfl rfl ?_
      | refine TL_gval (rr_pickF rfl rfl) rfl rfl rfl rfl rfl ?_
      | refine TL_gval (rr_lss rfl rfl (decide_eq_true (by omega))) rfl rfl rfl rfl rfl ?_
      | refine TL_gval (rr_lss rfl rfl (decide_eq_false (by omega))) rfl rfl rfl rfl rfl ?_
      | refine TL_gval (rr_gtr rfl rfl (decide_eq_true (by omega))) rfl rfl rfl rfl rfl ?_
      | refine TL_gval (rr_gtr rfl rfl (decide_eq_false (by omega))) rfl rfl rfl rfl rfl ?_)
    refine T_order ([]) [(0, true), (1, true), (2, true), (3, true), (4, true), (5, true), (6, true), (7, true), (8, true), (9, true), (10, true), (11, true), (12, true), (13, false), (14, true), (15, true)] (sub_nil) (by kernel_rfl) (by kernel_rfl) (by intro c a d v w h; cases d <;> exact h) ?_
    repeat (first
      | refine TV_val (rr_move rfl) rfl rfl rfl ?_
      | refine TV_val (rr_assign rfl) rfl rfl rfl ?_
      | refine TV_val (rr_add64 (r := ((N + 4 : Nat) : Int)) rfl rfl (by omega) (by omega) (by omega)) rfl rfl rfl ?_
      | refine TV_val (rr_add64 (r := ((N + 8 : Nat) : Int)) rfl rfl (by omega) (by omega) (by omega)) rfl rfl rfl ?_
      | refine TV_val (rr_stridx Und.eq rfl rfl (by omega) h0) rfl rfl rfl ?_
      | refine TV_val (rr_stridx Und.eq rfl rfl (by omega) h1) rfl rfl rfl ?_
      | refine TV_val (rr_conv Und.eq Und.eq rfl (cv64 _)) rfl rfl rfl ?_
      | refine TV_val (rr_strsub (i := 4) (j := N + 4) Und.eq rfl rfl rfl (by omega) (by omega)) rfl rfl rfl ?_
      | refine TV_val (rr_build rfl (build_fr _ _ _)) rfl rfl rfl ?_
      | refine TV_val (rr_pickT rfl rfl) rfl rfl rfl ?_
      | refine TV_val (rr_pickF rfl rfl) rfl rfl rfl ?_
      | refine TV_val (rr_strlen Und.eq rfl) rfl rfl rfl ?_
      | refine TV_val (rr_lss rfl rfl (decide_eq_true (by omega))) rfl rfl rfl ?_
      | refine TV_val (rr_lss rfl rfl (decide_eq_false (by omega))) rfl rfl rfl ?_
      | refine TV_val (rr_gtr rfl rfl (decide_eq_true (by omega))) rfl rfl rfl ?_
      | refine TV_val (rr_gtr rfl rfl (decide_eq_false (by omega))) rfl rfl rfl ?_
      | refine TV_val (rr_neq rfl rfl (decide_eq_true (by omega))) rfl rfl rfl ?_
      | refine TV_val (rr_neq rfl rfl (decide_eq_false (by omega))) rfl rfl rfl ?_
      | refine TV_val (rr_add64 rfl rfl (by omega) (by omega) rfl) rfl rfl rfl ?_
      | refine TV_skip rfl rfl rfl rfl rfl rfl ?_
      | refine TV_gval (rr_stridx Und.eq rfl rfl (by omega) h0) rfl rfl rfl rfl rfl ?_
      | refine TV_gval (rr_stridx Und.eq rfl rfl (by omega) h1) rfl rfl rfl rfl rfl ?_
      | refine TV_gval (rr_move rfl) rfl rfl rfl rfl rfl ?_
      | refine TV_gval (rr_pickT rfl rfl) rfl rfl rfl rfl rfl ?_
      | refine TV_gval (rr_pickF rfl rfl) rfl rfl rfl rfl rfl ?_
      | refine TV_gval (rr_lss rfl rfl (decide_eq_true (by omega))) rfl rfl rfl rfl rfl ?_
      | refine TV_gval (rr_lss rfl rfl (decide_eq_false (by omega))) rfl rfl rfl rfl rfl ?_
      | refine TV_gval (rr_gtr rfl rfl (decide_eq_true (by omega))) rfl rfl rfl rfl rfl ?_
      | refine TV_gval (rr_gtr rfl rfl (decide_eq_false (by omega))) rfl rfl rfl rfl rfl ?_
      | refine TV_nil ?_)
    refine TV_do (TL_storeB (i := 0) rfl rfl rfl rfl rfl rfl (TV_on sub_nil ?_))
    repeat (first
      | refine TV_val (rr_move rfl) rfl rfl rfl ?_
      | refine TV_val (rr_assign rfl) rfl rfl rfl ?_
      | refine TV_val (rr_pickT rfl rfl) rfl rfl rfl ?_
      | refine TV_val (rr_pickF rfl rfl) rfl rfl rfl ?_
      | refine TV_val (rr_strlen Und.eq rfl) rfl rfl rfl ?_
      | refine TV_val (rr_lss rfl rfl (decide_eq_true (by omega))) rfl rfl rfl ?_
      | refine TV_val (rr_lss rfl rfl (decide_eq_false (by omega))) rfl rfl rfl ?_
      | refine TV_val (rr_gtr rfl rfl (decide_eq_true (by omega))) rfl rfl rfl ?_
      | refine TV_val (rr_gtr rfl rfl (decide_eq_false (by omega))) rfl rfl rfl ?_
      | refine TV_val (rr_neq rfl rfl (decide_eq_true (by omega))) rfl rfl rfl ?_
      | refine TV_val (rr_neq rfl rfl (decide_eq_false (by omega))) rfl rfl rfl ?_
      | refine TV_val (rr_add64 rfl rfl (by omega) (by omega) rfl) rfl rfl rfl ?_
      | refine TV_skip rfl rfl rfl rfl rfl rfl ?_
      | refine TV_gval (rr_move rfl) rfl rfl rfl rfl rfl ?_
      | refine TV_gval (rr_pickT rfl rfl) rfl rfl rfl rfl rfl ?_
      | refine TV_gval (rr_pickF rfl rfl) rfl rfl rfl rfl rfl ?_
      | refine TV_gval (rr_lss rfl rfl (decide_eq_true (by omega))) rfl rfl rfl rfl rfl ?_
      | refine TV_gval (rr_lss rfl rfl (decide_eq_false (by omega))) rfl rfl rfl rfl rfl ?_
      | refine TV_gval (rr_gtr rfl rfl (decide_eq_true (by omega))) rfl rfl rfl rfl rfl ?_
      | refine TV_gval (rr_gtr rfl rfl (decide_eq_false (by omega))) rfl rfl rfl rfl rfl ?_
      | refine TV_nil ?_)
    repeat (first
      | refine TL_val (rr_move rfl) rfl rfl rfl ?_
      | refine TL_val (rr_assign rfl) rfl rfl rfl ?_
      | refine TL_nil ?_
      | refine T_seq ?_
      | refine T_region ?_
      | refine T_condT rfl ?_
      | refine T_condF rfl ?_
      | refine T_skip ?_
      | refine T_ret ?_
      | refine E_then ?_
      | refine E_thenR ?_
      | refine TL_val (rr_pickT rfl rfl) rfl rfl rfl ?_
      | refine TL_val (rr_pickF rfl rfl) rfl rfl rfl ?_
      | refine TL_val (rr_strlen Und.eq rfl) rfl rfl rfl ?_
      | refine TL_val (rr_lss rfl rfl (decide_eq_true (by omega))) rfl rfl rfl ?_
      | refine TL_val (rr_lss rfl rfl (decide_eq_false (by omega))) rfl rfl rfl ?_
      | refine TL_val (rr_gtr rfl rfl (decide_eq_true (by omega))) rfl rfl rfl ?_
      | refine TL_val (rr_gtr rfl rfl (decide_eq_false (by omega))) rfl rfl rfl ?_
      | refine TL_val (rr_neq rfl rfl (decide_eq_true (by omega))) rfl rfl rfl ?_
      | refine TL_val (rr_neq rfl rfl (decide_eq_false (by omega))) rfl rfl rfl ?_
      | refine TL_val (rr_add64 rfl rfl (by omega) (by omega) rfl) rfl rfl rfl ?_
      | refine TL_skip rfl rfl rfl rfl rfl rfl ?_
      | refine TL_gval (rr_move rfl) rfl rfl rfl rfl rfl ?_
      | refine TL_gval (rr_pickT rfl rfl) rfl rfl rfl rfl rfl ?_
      | refine TL_gval (rr_pickF rfl rfl) rfl rfl rfl rfl rfl ?_
      | refine TL_gval (rr_lss rfl rfl (decide_eq_true (by omega))) rfl rfl rfl rfl rfl ?_
      | refine TL_gval (rr_lss rfl rfl (decide_eq_false (by omega))) rfl rfl rfl rfl rfl ?_
      | refine TL_gval (rr_gtr rfl rfl (decide_eq_true (by omega))) rfl rfl rfl rfl rfl ?_
      | refine TL_gval (rr_gtr rfl rfl (decide_eq_false (by omega))) rfl rfl rfl rfl rfl ?_)
    exact E_retc3 (i := 0) rfl rfl rfl rfl rfl rfl fun w hm => hm.ret
  · rw [if_pos (by omega)]
    repeat (first
      | refine TL_val (rr_move rfl) rfl rfl rfl ?_
      | refine TL_val (rr_assign rfl) rfl rfl rfl ?_
      | refine TL_nil ?_
      | refine T_seq ?_
      | refine T_region ?_
      | refine T_condT rfl ?_
      | refine T_condF rfl ?_
      | refine T_skip ?_
      | refine T_ret ?_
      | refine E_then ?_
      | refine E_thenR ?_
      | refine TL_val (rr_build rfl build_fr0) rfl rfl rfl ?_
      | refine TL_val (rr_pickT rfl rfl) rfl rfl rfl ?_
      | refine TL_val (rr_pickF rfl rfl) rfl rfl rfl ?_
      | refine TL_val (rr_strlen Und.eq rfl) rfl rfl rfl ?_
      | refine TL_val (rr_lss rfl rfl (decide_eq_true (by omega))) rfl rfl rfl ?_
      | refine TL_val (rr_lss rfl rfl (decide_eq_false (by omega))) rfl rfl rfl ?_
      | refine TL_val (rr_gtr rfl rfl (decide_eq_true (by omega))) rfl rfl rfl ?_
      | refine TL_val (rr_gtr rfl rfl (decide_eq_false (by omega))) rfl rfl rfl ?_
      | refine TL_val (rr_neq rfl rfl (decide_eq_true (by omega))) rfl rfl rfl ?_
      | refine TL_val (rr_neq rfl rfl (decide_eq_false (by omega))) rfl rfl rfl ?_
      | refine TL_val (rr_add64 rfl rfl (by omega) (by omega) rfl) rfl rfl rfl ?_
      | refine TL_skip rfl rfl rfl rfl rfl rfl ?_
      | refine TL_gval (rr_move rfl) rfl rfl rfl rfl rfl ?_
      | refine TL_gval (rr_pickT rfl rfl) rfl rfl rfl rfl rfl ?_
      | refine TL_gval (rr_pickF rfl rfl) rfl rfl rfl rfl rfl ?_
      | refine TL_gval (rr_lss rfl rfl (decide_eq_true (by omega))) rfl rfl rfl rfl rfl ?_
      | refine TL_gval (rr_lss rfl rfl (decide_eq_false (by omega))) rfl rfl rfl rfl rfl ?_
      | refine TL_gval (rr_gtr rfl rfl (decide_eq_true (by omega))) rfl rfl rfl rfl rfl ?_
      | refine TL_gval (rr_gtr rfl rfl (decide_eq_false (by omega))) rfl rfl rfl rfl rfl ?_)
    refine TL_storeB (i := 0) rfl rfl rfl rfl rfl rfl ?_
    repeat (first
      | refine TL_val (rr_move rfl) rfl rfl rfl ?_
      | refine TL_val (rr_assign rfl) rfl rfl rfl ?_
      | refine TL_nil ?_
      | refine T_seq ?_
      | refine T_region ?_
      | refine T_condT rfl ?_
      | refine T_condF rfl ?_
      | refine T_skip ?_
      | refine T_ret ?_
      | refine E_then ?_
      | refine E_thenR ?_
      | refine TL_val (rr_pickT rfl rfl) rfl rfl rfl ?_
      | refine TL_val (rr_pickF rfl rfl) rfl rfl rfl ?_
      | refine TL_val (rr_strlen Und.eq rfl) rfl rfl rfl ?_
      | refine TL_val (rr_lss rfl rfl (decide_eq_true (by omega))) rfl rfl rfl ?_
      | refine TL_val (rr_lss rfl rfl (decide_eq_false (by omega))) rfl rfl rfl ?_
      | refine TL_val (rr_gtr rfl rfl (decide_eq_true (by omega))) rfl rfl rfl ?_
      | refine TL_val (rr_gtr rfl rfl (decide_eq_false (by omega))) rfl rfl rfl ?_
      | refine TL_val (rr_neq rfl rfl (decide_eq_true (by omega))) rfl rfl rfl ?_
      | refine TL_val (rr_neq rfl rfl (decide_eq_false (by omega))) rfl rfl rfl ?_
      | refine TL_val (rr_add64 rfl rfl (by omega) (by omega) rfl) rfl rfl rfl ?_
      | refine TL_skip rfl rfl rfl rfl rfl rfl ?_
      | refine TL_gval (rr_move rfl) rfl rfl rfl rfl rfl ?_
      | refine TL_gval (rr_pickT rfl rfl) rfl rfl rfl rfl rfl ?_
      | refine TL_gval (rr_pickF rfl rfl) rfl rfl rfl rfl rfl ?_
      | refine TL_gval (rr_lss rfl rfl (decide_eq_true (by omega))) rfl rfl rfl rfl rfl ?_
      | refine TL_gval (rr_lss rfl rfl (decide_eq_false (by omega))) rfl rfl rfl rfl rfl ?_
      | refine TL_gval (rr_gtr rfl rfl (decide_eq_true (by omega))) rfl rfl rfl rfl rfl ?_
      | refine TL_gval (rr_gtr rfl rfl (decide_eq_false (by omega))) rfl rfl rfl rfl rfl ?_)
    exact E_retc3 (i := 0) rfl rfl rfl rfl rfl rfl fun w hm => hm.ret
end Go.Proofs.Ytnooleopmlijeaa.eng
