/- What math/bits.OnesCount64, TrailingZeros64 and class.Has, Count, Bytes, least compute. -/
import Derived.Test.YtbiacehgfmgfdaaDoorClassSetsE
import Derived.Test.YtbiacehgfmgfdaaDoorClassR
import Derived.Test.YtbiacehgfmgfdaaDoorMgB
import Derived.Laws.Bits64b
namespace Go.Proofs.YtbiacehgfmgfdaaDoor.eng
open Go.RowKit kit mix classL
theorem shrU {P : Program} (x j b : Nat) (k k' : IntKind) (hb : k.bits = b) (hj : j ≤ b) (w : World) : (Op.shift .shr k (x : Int) k' (j : Int)).run P w = .ok (.int k ((x / 2 ^ j : Nat) : Int)) w := by
  have e : min j b = j := by omega
  have h0 : ¬ ((j : Int) < 0) := by omega
  have e2 : (x : Int).fdiv (2 ^ j) = ((x / 2 ^ j : Nat) : Int) := by
    rw [Int.fdiv_eq_ediv_of_nonneg _ (by have : (0 : Int) < 2 ^ j := Int.pow_pos (by decide); omega)]
    simp
  simp only [Op.shift, if_neg h0, hb, Int.toNat_natCast, e, e2, Sem.run_pure]
theorem sh1 {P : Program} (x : Nat) (w : World) : (Op.shift .shr .u64 (x : Int) .u64 1).run P w = .ok (.int .u64 ((x / 2 : Nat) : Int)) w := shrU x 1 64 .u64 .u64 rfl (by decide) w
theorem sh2 {P : Program} (x : Nat) (w : World) : (Op.shift .shr .u64 (x : Int) .u64 2).run P w = .ok (.int .u64 ((x / 4 : Nat) : Int)) w := shrU x 2 64 .u64 .u64 rfl (by decide) w
theorem sh4 {P : Program} (x : Nat) (w : World) : (Op.shift .shr .u64 (x : Int) .u64 4).run P w = .ok (.int .u64 ((x / 16 : Nat) : Int)) w := shrU x 4 64 .u64 .u64 rfl (by decide) w
theorem sh8' {P : Program} (x : Nat) (w : World) : (Op.shift .shr .u64 (x : Int) .u64 8).run P w = .ok (.int .u64 ((x / 256 : Nat) : Int)) w := shrU x 8 64 .u64 .u64 rfl (by decide) w
theorem sh16' {P : Program} (x : Nat) (w : World) : (Op.shift .shr .u64 (x : Int) .u64 16).run P w = .ok (.int .u64 ((x / 65536 : Nat) : Int)) w := shrU x 16 64 .u64 .u64 rfl (by decide) w
theorem sh32' {P : Program} (x : Nat) (w : World) : (Op.shift .shr .u64 (x : Int) .u64 32).run P w = .ok (.int .u64 ((x / 4294967296 : Nat) : Int)) w := shrU x 32 64 .u64 .u64 rfl (by decide) w
theorem wu64 {a b r : Nat} (h : a + b = r) (h2 : r < 18446744073709551616) : IntKind.u64.wrap ((a : Int) + (b : Int)) = (r : Int) := by rw [IntKind.wrap_u64]; omega
theorem and127 : ∀ x : Nat, x < 9223372036854775808 → bits .and .i64 (x : Int) 127 = ((x % 128 : Nat) : Int) := fun x h => by
  have e1 : BitVec.ofInt 64 (x : Int) = BitVec.ofNat 64 x := by simp
  have e2 : (BitVec.ofNat 64 x &&& 127#64).toNat = x % 128 := by
    rw [BitVec.toNat_and, BitVec.toNat_ofNat, Nat.mod_eq_of_lt (by omega : x < 2 ^ 64)]
    exact Nat.and_two_pow_sub_one_eq_mod x 7
  have e3 : bits .and .i64 (x : Int) 127 = IntKind.i64.wrap (((BitVec.ofNat 64 x &&& 127#64).toNat : Nat) : Int) := by
    unfold bits; simp only [IntKind.bits, e1]; rfl
  rw [e3, e2, IntKind.wrap_i64]
  omega
theorem ones_calls (x : Nat) (hx : x < 18446744073709551616) (w : World) : Calls Tryd.prog 33 #[.int .u64 (x : Int)] w (Meets (ret (.int .i64 (ones 64 x : Int))) w) := by
  refine enter (args := [.int .u64 (x : Int)]) (n := 35) Tryd.func33 rfl rfl rfl ?_
  obtain ⟨h1, h2, h2', h3, h4, h5, h6, h7⟩ := swar x hx
  have a1 := bits_and_u64_nat (x / 2) 6148914691236517205 (by omega) (by decide)
  have a1' := bits_and_u64_nat x 6148914691236517205 hx (by decide)
  have c1 := wu64 (a := x / 2 &&& 6148914691236517205) (b := x &&& 6148914691236517205) (r := s1 x) rfl h1
  repeat (first
    | refine qv rfl (qp rfl) rfl rfl ?_ | refine TL_nil ?_ | refine T_seq ?_ | refine T_region ?_ | refine T_ret ?_ | refine E_then ?_ | refine E_thenR ?_
    | refine qv rfl (rr_shr rfl rfl (sh1 x)) rfl rfl ?_ | refine qv rfl (rr_and rfl rfl a1) rfl rfl ?_ | refine qv rfl (rr_and rfl rfl a1') rfl rfl ?_
    | refine qv rfl (rr_addw rfl rfl c1) rfl rfl ?_ | refine qv rfl (rr_shr rfl rfl (sh2 (s1 x))) rfl rfl ?_)
  clear a1 a1' c1
  generalize s1 x = x1 at *
  have a1 := bits_and_u64_nat (x1 / 4) 3689348814741910323 (by omega) (by decide)
  have a1' := bits_and_u64_nat x1 3689348814741910323 h1 (by decide)
  have c1 := wu64 (a := x1 / 4 &&& 3689348814741910323) (b := x1 &&& 3689348814741910323) (r := s2 x1) rfl (by omega)
  repeat (first
    | refine qv rfl (qp rfl) rfl rfl ?_ | refine TL_nil ?_ | refine T_seq ?_ | refine T_region ?_ | refine T_ret ?_ | refine E_then ?_ | refine E_thenR ?_
    | refine qv rfl (rr_and rfl rfl a1) rfl rfl ?_ | refine qv rfl (rr_and rfl rfl a1') rfl rfl ?_ | refine qv rfl (rr_addw rfl rfl c1) rfl rfl ?_
    | refine qv rfl (rr_shr rfl rfl (sh4 (s2 x1))) rfl rfl ?_)
  clear a1 a1' c1
  generalize s2 x1 = x2 at *
  have c1 := wu64 (a := x2 / 16) (b := x2) rfl h2'
  have a1 : bits .and .u64 ((x2 / 16 + x2 : Nat) : Int) 1085102592571150095 = ((s3 x2 : Nat) : Int) := bits_and_u64_nat _ 1085102592571150095 h2' (by decide)
  repeat (first
    | refine qv rfl (qp rfl) rfl rfl ?_ | refine TL_nil ?_ | refine T_seq ?_ | refine T_region ?_ | refine T_ret ?_ | refine E_then ?_ | refine E_thenR ?_
    | refine qv rfl (rr_and rfl rfl a1) rfl rfl ?_ | refine qv rfl (rr_addw rfl rfl c1) rfl rfl ?_ | refine qv rfl (rr_shr rfl rfl (sh8' (s3 x2))) rfl rfl ?_)
  clear a1 c1
  generalize s3 x2 = x3 at *
  have c1 := wu64 (a := x3) (b := x3 / 256) (r := s4 x3) rfl (by omega)
  repeat (first
    | refine qv rfl (qp rfl) rfl rfl ?_ | refine TL_nil ?_ | refine T_seq ?_ | refine T_region ?_ | refine T_ret ?_ | refine E_then ?_ | refine E_thenR ?_
    | refine qv rfl (rr_addw rfl rfl c1) rfl rfl ?_ | refine qv rfl (rr_shr rfl rfl (sh16' (s4 x3))) rfl rfl ?_)
  clear c1
  generalize s4 x3 = x4 at *
  have c1 := wu64 (a := x4) (b := x4 / 65536) (r := s5 x4) rfl (by omega)
  repeat (first
    | refine qv rfl (qp rfl) rfl rfl ?_ | refine TL_nil ?_ | refine T_seq ?_ | refine T_region ?_ | refine T_ret ?_ | refine E_then ?_ | refine E_thenR ?_
    | refine qv rfl (rr_addw rfl rfl c1) rfl rfl ?_ | refine qv rfl (rr_shr rfl rfl (sh32' (s5 x4))) rfl rfl ?_)
  clear c1
  generalize s5 x4 = x5 at *
  have c1 := wu64 (a := x5) (b := x5 / 4294967296) (r := s6 x5) rfl (by omega)
  repeat (first
    | refine qv rfl (qp rfl) rfl rfl ?_ | refine TL_nil ?_ | refine T_seq ?_ | refine T_region ?_ | refine T_ret ?_ | refine E_then ?_ | refine E_thenR ?_
    | refine qv rfl (rr_addw rfl rfl c1) rfl rfl ?_ | refine qv rfl (rr_conv Und.eq Und.eq rfl (wrap_in (by omega) (by omega))) rfl rfl ?_
    | refine qv rfl (rr_and rfl rfl (and127 _ h6)) rfl rfl ?_)
  rw [h7]
  exact E_ret1 rfl rfl fun w hm => hm.ret
/-- the table of the library -/
def tabC : List Value := Lib.deBruijn64tab.map fun (n : Nat) => .int .u8 (n : Int)
def TabW (w : World) : Prop := Rd w 0 0 tabC
theorem TabW.up {W w : World} {L : List Own} (h : TabW W) (hm : Mem W L w) : TabW w := fun j u hj => hm.cell (h j u hj)
theorem neg64 {x : Nat} (h0 : x ≠ 0) (hx : x < 18446744073709551616) : IntKind.u64.wrap (-(x : Int)) = ((18446744073709551616 - x : Nat) : Int) := by rw [IntKind.wrap_u64]; omega
theorem rr_neg {P : Program} {n : Nat} {W : Base} {fr : Fr} {L : List Own} {dst : Option Tmp} {t ty : TypeId} {pos : String} {after : Array Edge} {guard : Option (Nat × Bool)} {x : Operand} {k : IntKind} {m r : Int} (hx : ev fr x = some (.int k m)) (h : k.wrap (-m) = r) : RR P n W ⟨dst, .unOp .neg t x, ty, pos, after, guard⟩ fr L (.int k r) := .mk fun a w hr _ => by
  simp [execOp, hr.ev hx, Op.unary, Op.intArith, h]
theorem mulw {a b r : Nat} (h : a * b % 18446744073709551616 = r) : IntKind.u64.wrap ((a : Int) * (b : Int)) = (r : Int) := by
  rw [IntKind.wrap_u64, ← h, ← Int.natCast_mul]; omega
theorem rr_mulw {P : Program} {n : Nat} {W : Base} {fr : Fr} {L : List Own} {dst : Option Tmp} {t u ty : TypeId} {pos : String} {after : Array Edge} {guard : Option (Nat × Bool)} {x y : Operand} {k : IntKind} {m m' r : Int} (hx : ev fr x = some (.int k m)) (hy : ev fr y = some (.int k m')) (h : k.wrap (m * m') = r) : RR P n W ⟨dst, .binOp .mul t x y u, ty, pos, after, guard⟩ fr L (.int k r) := h ▸ rr_mul hx hy
theorem cls_cell (c : C4) (i : Nat) (h : i < 4) : (#[v64 c.a, v64 c.b, v64 c.c, v64 c.d] : Array Value)[i]? = some (.int .u64 ((c.get i).toNat : Int)) := by
  match i, h with
  | 0, _ => rfl
  | 1, _ => rfl
  | 2, _ => rfl
  | 3, _ => rfl
theorem u8and63 : ∀ b : Nat, b < 256 → bits .and .u8 (b : Int) 63 = ((b % 64 : Nat) : Int) := by decide +kernel
theorem has_calls (c : C4) (b : Nat) (hb : b < 256) (w : World) : Calls Tryd.prog 21 #[clsV c, .int .u8 (b : Int)] w (Meets (ret (.bool (c.mem b))) w) := by
  refine enter (args := [.agg #[v64 c.a, v64 c.b, v64 c.c, v64 c.d], .int .u8 (b : Int)]) (n := 14) Tryd.func21 rfl rfl rfl ?_
  refine T_seq (T_region (TL_box rfl rfl rfl fun g => ?_))
  have h1 : b / 64 < 4 := by omega
  have hc : (#[v64 c.a, v64 c.b, v64 c.c, v64 c.d] : Array Value)[0 + b / 64]? = some (.int .u64 ((c.get (b / 64)).toNat : Int)) := by rw [Nat.zero_add]; exact cls_cell c _ h1
  have hx := (c.get (b / 64)).isLt
  have hs1 : ∀ w, (Op.shift .shr .u8 (b : Int) .u64 6).run Tryd.prog w = .ok (.int .u8 ((b / 64 : Nat) : Int)) w := fun w => shrU b 6 8 .u8 .u64 rfl (by decide) w
  have hs2 : ∀ w, (Op.shift .shr .u64 ((c.get (b / 64)).toNat : Int) .u8 ((b % 64 : Nat) : Int)).run Tryd.prog w = .ok (.int .u64 (((c.get (b / 64)).toNat / 2 ^ (b % 64) : Nat) : Int)) w := fun w => shrU _ (b % 64) 64 .u64 .u8 rfl (by omega) w
  have hm : c.mem b = decide ((c.get (b / 64)).toNat / 2 ^ (b % 64) % 2 = 1) := by unfold C4.mem; rw [Nat.testBit_eq_decide_div_mod_eq]
  rw [hm]
  have hd : (c.get (b / 64)).toNat / 2 ^ (b % 64) ≤ (c.get (b / 64)).toNat := Nat.div_le_self _ _
  have h63 := u8and63 b hb
  generalize (c.get (b / 64)).toNat = x at *
  generalize b % 64 = k at *
  generalize b / 64 = i at *
  generalize x / 2 ^ k = y at *
  have ha : bits .and .u64 (y : Int) 1 = ((y % 2 : Nat) : Int) := by
    have := bits_and_u64_nat y 1 (by omega) (by decide)
    rw [Nat.and_one_is_mod] at this
    exact this
  repeat (first
    | refine qv rfl (qp rfl) rfl rfl ?_ | refine TL_nil ?_ | refine T_seq ?_ | refine T_region ?_ | refine T_ret ?_ | refine E_then ?_ | refine E_thenR ?_
    | refine qv rfl (rr_shr rfl rfl hs1) rfl rfl ?_ | refine qv rfl (rr_aidx1 Und.eq TyC.ty rfl rfl h1) rfl rfl ?_
    | refine qv rfl (rr_load1 TyC.ty rfl (at_blk (i := 0) rfl hc)) rfl rfl ?_ | refine qv rfl (rr_and rfl rfl h63) rfl rfl ?_
    | refine qv rfl (rr_shr rfl rfl hs2) rfl rfl ?_ | refine qv rfl (rr_and rfl rfl ha) rfl rfl ?_ | refine qv rfl (rr_eql rfl rfl rfl) rfl rfl ?_
    | refine qv rfl (rr_eql rfl rfl (qT (by omega))) rfl rfl ?_ | refine qv rfl (rr_eql rfl rfl (qF (by omega))) rfl rfl ?_)
  exact E_ret1e rfl rfl (by congr 1; rw [decide_eq_decide]; omega)
theorem bytesTo_len (c : C4) : ∀ i, (bytesTo c i).length ≤ 64 * i
  | 0 => Nat.le_refl _
  | i + 1 => by
    have := bytesTo_len c i
    have h2 := ones_le 64 (c.get i).toNat
    simp only [bytesTo, List.length_append, List.length_map, bits_len]
    omega
theorem count_calls (c : C4) (w : World) : Calls Tryd.prog 16 #[clsV c] w (Meets (ret (.int .i64 (cnt c : Int))) w) := by
  refine enter (args := [.agg #[v64 c.a, v64 c.b, v64 c.c, v64 c.d]]) (n := 16) Tryd.func16 rfl rfl rfl ?_
  refine T_seq (T_region (TL_box rfl rfl rfl fun g => ?_))
  repeat (first
    | refine qv rfl (qp rfl) rfl rfl ?_ | refine TL_nil ?_ | refine T_seq ?_ | refine T_region ?_ | refine qcT rfl ?_ | refine qcF rfl ?_ | refine T_skip ?_
    | refine T_exit ?_ | refine T_ret ?_ | refine T_block ?_ | refine E_then ?_ | refine E_thenX ?_ | refine E_thenR ?_ | refine E_blockN ?_
    | refine E_blockR ?_ | refine E_blockX ?_ | refine E_blockO rfl ?_ | refine qv rfl (rr_loadB (i := 0) TyC.ty rfl rfl rfl) rfl rfl ?_
    | refine qv rfl (rr_lss rfl rfl (qT (by omega))) rfl rfl ?_ | refine qv rfl (rr_lss rfl rfl (qF (by omega))) rfl rfl ?_
    | refine qv rfl (rr_add64 rfl rfl (by omega) (by omega) rfl) rfl rfl ?_)
  refine T_loop (ι := Nat) (fun i => i ≤ 4) (fun i => [(3, .int .i64 ((bytesTo c i).length : Int)), (6, .agg #[v64 c.a, v64 c.b, v64 c.c, v64 c.d]), (7, .int .i64 (i : Int))]) (fun _ => [blkO g (Value.agg #[v64 c.a, v64 c.b, v64 c.c, v64 c.d]).cells 27]) (fun i => 4 - i) 0 (by omega) (by repeat' (first | exact True.intro | refine And.intro rfl ?_)) rfl ?_
  intro i hi
  by_cases h4 : i < 4
  · have hc := cls_cell c i h4
    have hx := (c.get i).isLt
    have hones := ones_calls (c.get i).toNat hx
    have hl := bytesTo_len c i
    have hl2 := ones_le 64 (c.get i).toNat
    have he : (bytesTo c (i + 1)).length = (bytesTo c i).length + ones 64 (c.get i).toNat := by simp only [bytesTo, List.length_append, List.length_map, bits_len]
    repeat (first
      | refine qv rfl (qp rfl) rfl rfl ?_ | refine TL_nil ?_ | refine T_seq ?_ | refine T_region ?_ | refine qcT rfl ?_ | refine qcF rfl ?_ | refine T_skip ?_
      | refine T_exit ?_ | refine T_ret ?_ | refine T_block ?_ | refine E_then ?_ | refine E_thenX ?_ | refine E_thenR ?_ | refine E_blockN ?_
      | refine E_blockR ?_ | refine E_blockX ?_ | refine E_blockO rfl ?_ | refine qv rfl (rr_arridx Und.eq TyC.ty rfl rfl h4 hc) rfl rfl ?_
      | refine qv rfl (rr_lss rfl rfl (qT (by omega))) rfl rfl ?_ | refine qv rfl (rr_lss rfl rfl (qF (by omega))) rfl rfl ?_
      | refine qv rfl (rr_add64 rfl rfl (by omega) (by omega) rfl) rfl rfl ?_)
    refine TL_call (he1 EntersC.en rfl rfl) (fun w hm => hones w) rfl rfl rfl ?_
    intro _ _
    repeat (first
      | refine qv rfl (qp rfl) rfl rfl ?_ | refine TL_nil ?_ | refine T_seq ?_ | refine T_region ?_ | refine qcT rfl ?_ | refine qcF rfl ?_ | refine T_skip ?_
      | refine T_exit ?_ | refine T_ret ?_ | refine T_block ?_ | refine E_then ?_ | refine E_thenX ?_ | refine E_thenR ?_ | refine E_blockN ?_
      | refine E_blockR ?_ | refine E_blockX ?_ | refine E_blockO rfl ?_ | refine qv rfl (rr_lss rfl rfl (qT (by omega))) rfl rfl ?_
      | refine qv rfl (rr_lss rfl rfl (qF (by omega))) rfl rfl ?_ | refine qv rfl (rr_add64 rfl rfl (by omega) (by omega) rfl) rfl rfl ?_)
    refine E_round (i + 1) (by omega) (by show 4 - (i + 1) < 4 - i; omega) ⟨?_, rfl, rfl, trivial⟩ rfl
    rw [he]; rfl
  · obtain rfl : i = 4 := by omega
    repeat (first
      | refine qv rfl (qp rfl) rfl rfl ?_ | refine TL_nil ?_ | refine T_seq ?_ | refine T_region ?_ | refine qcT rfl ?_ | refine qcF rfl ?_ | refine T_skip ?_
      | refine T_exit ?_ | refine T_ret ?_ | refine T_block ?_ | refine E_then ?_ | refine E_thenX ?_ | refine E_thenR ?_ | refine E_blockN ?_
      | refine E_blockR ?_ | refine E_blockX ?_ | refine E_blockO rfl ?_ | refine qv rfl (rr_lss rfl rfl (qT (by omega))) rfl rfl ?_
      | refine qv rfl (rr_lss rfl rfl (qF (by omega))) rfl rfl ?_ | refine qv rfl (rr_add64 rfl rfl (by omega) (by omega) rfl) rfl rfl ?_)
    exact E_ret1e rfl rfl (by rw [bytes_to]; rfl)
end Go.Proofs.YtbiacehgfmgfdaaDoor.eng
