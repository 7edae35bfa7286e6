/- What math/bits.TrailingZeros64 and class.Bytes, least compute. -/
import Derived.Test.YtbiacehgfmgfdaaDoorClassN
namespace Go.Proofs.YtbiacehgfmgfdaaDoor.eng
open Go.RowKit kit mix classL
theorem map_getD {β : Type} (f : Nat → β) (l : List Nat) (j : Nat) (h : j < l.length) : (l.map f)[j]? = some (f (l.getD j 0)) := by
  rw [List.getElem?_map, List.getD_eq_getElem?_getD, List.getElem?_eq_getElem h]; rfl
theorem tab_len : Lib.deBruijn64tab.length = 64 := by decide
theorem tab_at (j : Nat) (h : j < 64) : tabC[j]? = some (.int .u8 ((Lib.deBruijn64tab.getD j 0 : Nat) : Int)) := map_getD (fun (n : Nat) => Value.int .u8 (n : Int)) Lib.deBruijn64tab j (by rw [tab_len]; exact h)
theorem tab_key (c : Nat) (hk : c < 64) : 2 ^ c * 285870213051353865 % 18446744073709551616 / 288230376151711744 < 64 ∧ tabC[2 ^ c * 285870213051353865 % 18446744073709551616 / 288230376151711744]? = some (.int .u8 (c : Int)) := by
  obtain ⟨hi, htab⟩ := Lib.deBruijn64_at _ hk
  have h := tab_at _ hi
  rw [htab] at h
  exact ⟨hi, h⟩
theorem tz_calls (x : Nat) (hx : x < 18446744073709551616) (h0 : x ≠ 0) (w : World) (hT : TabW w) : Calls Tryd.prog 34 #[.int .u64 (x : Int)] w (Meets (ret (.int .i64 (Lib.ctz 64 x : Int))) w) := by
  refine enter (args := [.int .u64 (x : Int)]) (n := 14) Tryd.func34 rfl rfl rfl ?_
  obtain ⟨hlow, hk⟩ := Lib.lowest_bit 64 x h0 (by simpa using hx)
  obtain ⟨hi, hcell⟩ := tab_key _ hk
  have a1 := bits_and_u64_nat x (18446744073709551616 - x) hx (by omega)
  simp only [Nat.reducePow] at hlow
  rw [hlow] at a1
  clear hlow
  generalize Lib.ctz 64 x = c at *
  have h4 : 0 < 2 ^ c := Nat.two_pow_pos c
  have hc := mulw (a := 2 ^ c) (b := 285870213051353865) rfl
  generalize 2 ^ c * 285870213051353865 % 18446744073709551616 = m at *
  have hsh : ∀ w, (Op.shift .shr .u64 (m : Int) .u64 58).run Tryd.prog w = .ok (.int .u64 ((m / 288230376151711744 : Nat) : Int)) w := fun w => shrU m 58 64 .u64 .u64 rfl (by decide) w
  generalize m / 288230376151711744 = j at *
  repeat (first
    | refine qv rfl (qp rfl) rfl rfl ?_ | refine TL_nil ?_ | refine T_seq ?_ | refine T_region ?_ | refine qcT rfl ?_ | refine qcF rfl ?_ | refine T_skip ?_
    | refine T_ret ?_ | refine E_then ?_ | refine E_thenR ?_ | refine qv rfl (rr_eql rfl rfl (decide_eq_false (by omega))) rfl rfl ?_
    | refine qv rfl (rr_neg rfl (neg64 h0 hx)) rfl rfl ?_ | refine qv rfl (rr_and rfl rfl a1) rfl rfl ?_ | refine qv rfl (rr_mulw rfl rfl hc) rfl rfl ?_
    | refine qv rfl (rr_shr rfl rfl hsh) rfl rfl ?_ | refine qv rfl (rr_aidx1 Und.eq TyC.ty rfl rfl hi) rfl rfl ?_
    | refine qv rfl (rr_load1 TyC.ty rfl (at_rd hT hcell)) rfl rfl ?_ | refine qv rfl (rr_conv Und.eq Und.eq rfl (wrap_in (by omega) (by omega))) rfl rfl ?_
    | refine qv rfl (rr_eql rfl rfl (qT (by omega))) rfl rfl ?_ | refine qv rfl (rr_eql rfl rfl (qF (by omega))) rfl rfl ?_)
  exact E_ret1 rfl rfl fun w hm => hm.ret
theorem rr_subw {P : Program} {n : Nat} {W : Base} {fr : Fr} {L : List Own} {dst : Option Tmp} {t u ty : TypeId} {pos : String} {after : Array Edge} {guard : Option (Nat × Bool)} {x y : Operand} {k : IntKind} {m m' r : Int} (hx : ev fr x = some (.int k m)) (hy : ev fr y = some (.int k m')) (h : k.wrap (m - m') = r) : RR P n W ⟨dst, .binOp .sub t x y u, ty, pos, after, guard⟩ fr L (.int k r) := h ▸ rr_sub hx hy
theorem shl6 : ∀ i : Nat, i < 4 → ∀ w, (Op.shift .shl .i64 (i : Int) .u64 6).run Tryd.prog w = .ok (.int .i64 ((64 * i : Nat) : Int)) w := fun i h w => by
  match i, h with
  | 0, _ => rfl
  | 1, _ => rfl
  | 2, _ => rfl
  | 3, _ => rfl
theorem or64i : ∀ i : Nat, i < 4 → ∀ t : Nat, t < 64 → bits .or .i64 ((64 * i : Nat) : Int) (t : Int) = ((64 * i + t : Nat) : Int) := by decide +kernel
/-- the bytes of a class, as a string -/
def strL (c : C4) : List UInt8 := (bytesL c).map UInt8.ofNat
def toL (c : C4) (i : Nat) : List UInt8 := (bytesTo c i).map UInt8.ofNat
def upL (i x : Nat) : List UInt8 := (bitsOf x).map fun j => UInt8.ofNat (64 * i + j)
theorem toL_next (c : C4) (i : Nat) : toL c (i + 1) = toL c i ++ upL i (c.get i).toNat := by
  simp only [toL, upL, bytesTo, List.map_append, List.map_map]; rfl
theorem u8of {m : Nat} (h : m < 256) : IntKind.u8.wrap (m : Int) = ((UInt8.ofNat m).toNat : Int) := by
  rw [IntKind.wrap_u8]; simp
set_option maxHeartbeats 1000000 in
theorem bytes_calls (c : C4) (w : World) (hT : TabW w) : Calls Tryd.prog 20 #[clsV c] w (Meets (ret (str (strL c))) w) := by
  refine enter (args := [.agg #[v64 c.a, v64 c.b, v64 c.c, v64 c.d]]) (n := 29) Tryd.func20 rfl rfl rfl ?_
  refine T_seq (T_region (TL_box rfl rfl rfl fun g => ?_))
  repeat (first
    | refine qv rfl (qp rfl) rfl rfl ?_ | refine TL_nil ?_ | refine T_seq ?_ | refine T_region ?_ | refine qcT rfl ?_ | refine qcF rfl ?_ | refine T_skip ?_
    | refine T_exit ?_ | refine T_ret ?_ | refine T_block ?_ | refine E_then ?_ | refine E_thenX ?_ | refine E_thenR ?_ | refine E_blockN ?_
    | refine E_blockR ?_ | refine E_blockX ?_ | refine E_blockO rfl ?_ | refine qv rfl (rr_loadB (i := 0) TyC.ty rfl rfl rfl) rfl rfl ?_
    | refine qv rfl (rr_lss rfl rfl (qT (by omega))) rfl rfl ?_ | refine qv rfl (rr_lss rfl rfl (qF (by omega))) rfl rfl ?_
    | refine qv rfl (rr_neq rfl rfl (qT (by omega))) rfl rfl ?_ | refine qv rfl (rr_neq rfl rfl (qF (by omega))) rfl rfl ?_
    | refine qv rfl (rr_add64 rfl rfl (by omega) (by omega) rfl) rfl rfl ?_)
  refine T_nil 5 1 ?_
  refine T_loop (ι := Nat × Value) (fun (i, _) => i ≤ 4) (fun (i, v) => [(3, v), (6, .agg #[v64 c.a, v64 c.b, v64 c.c, v64 c.d]), (7, .int .i64 (i : Int))]) (fun (i, v) => [blkO g (Value.agg #[v64 c.a, v64 c.b, v64 c.c, v64 c.d]).cells 27, rowO 5 1 v (toL c i).length ((toL c i).map u8v)]) (fun (i, _) => 4 - i) (0, .slice none 0 0) (by show 0 ≤ 4; omega) (by repeat' (first | exact True.intro | refine And.intro rfl ?_)) rfl ?_
  rintro ⟨i, v⟩ hi
  dsimp only at hi ⊢
  by_cases h4 : i < 4
  · have hc := cls_cell c i h4
    have hx := (c.get i).isLt
    have hnx := toL_next c i
    have hl : (toL c i).length ≤ 64 * i := by have := bytesTo_len c i; simpa [toL] using this
    have hsh := shl6 i h4
    have hor := or64i i h4
    repeat (first
      | refine qv rfl (qp rfl) rfl rfl ?_ | refine TL_nil ?_ | refine T_seq ?_ | refine T_region ?_ | refine qcT rfl ?_ | refine qcF rfl ?_ | refine T_skip ?_
      | refine T_exit ?_ | refine T_ret ?_ | refine T_block ?_ | refine E_then ?_ | refine E_thenX ?_ | refine E_thenR ?_ | refine E_blockN ?_
      | refine E_blockR ?_ | refine E_blockX ?_ | refine E_blockO rfl ?_ | refine qv rfl (rr_arridx Und.eq TyC.ty rfl rfl h4 hc) rfl rfl ?_
      | refine qv rfl (rr_lss rfl rfl (qT (by omega))) rfl rfl ?_ | refine qv rfl (rr_lss rfl rfl (qF (by omega))) rfl rfl ?_
      | refine qv rfl (rr_neq rfl rfl (qT (by omega))) rfl rfl ?_ | refine qv rfl (rr_neq rfl rfl (qF (by omega))) rfl rfl ?_
      | refine qv rfl (rr_add64 rfl rfl (by omega) (by omega) rfl) rfl rfl ?_)
    refine T_loop (ι := List UInt8 × Nat × Value) (fun (o, x, _) => o ++ upL i x = toL c (i + 1) ∧ x < 18446744073709551616 ∧ o.length + (bitsOf x).length ≤ 256) (fun (o, x, v) => [(3, v), (4, .int .i64 (i : Int)), (5, .int .u64 (x : Int)), (6, .agg #[v64 c.a, v64 c.b, v64 c.c, v64 c.d]), (7, .int .i64 (i : Int))]) (fun (o, _, v) => [blkO g (Value.agg #[v64 c.a, v64 c.b, v64 c.c, v64 c.d]).cells 27, rowO 5 1 v o.length (o.map u8v)]) (fun (_, x, _) => x) (toL c i, (c.get i).toNat, v) ⟨hnx.symm, hx, ?_⟩ (by repeat' (first | exact True.intro | refine And.intro rfl ?_)) rfl ?_
    · have := ones_le 64 (c.get i).toNat
      rw [bits_len]; omega
    clear hnx hl hx hc
    rintro ⟨o, x, v2⟩ ⟨k1, k2, k3⟩
    dsimp only at k1 k2 k3 ⊢
    by_cases h0 : x = 0
    · subst h0
      have e : o = toL c (i + 1) := by rw [← k1]; simp [upL, bits_zero]
      subst e
      repeat (first
        | refine qv rfl (qp rfl) rfl rfl ?_ | refine TL_nil ?_ | refine T_seq ?_ | refine T_region ?_ | refine qcT rfl ?_ | refine qcF rfl ?_ | refine T_skip ?_
        | refine T_exit ?_ | refine T_ret ?_ | refine T_block ?_ | refine E_then ?_ | refine E_thenX ?_ | refine E_thenR ?_ | refine E_blockN ?_
        | refine E_blockR ?_ | refine E_blockX ?_ | refine E_blockO rfl ?_ | refine qv rfl (rr_lss rfl rfl (qT (by omega))) rfl rfl ?_
        | refine qv rfl (rr_lss rfl rfl (qF (by omega))) rfl rfl ?_ | refine qv rfl (rr_neq rfl rfl (qT (by omega))) rfl rfl ?_
        | refine qv rfl (rr_neq rfl rfl (qF (by omega))) rfl rfl ?_ | refine qv rfl (rr_add64 rfl rfl (by omega) (by omega) rfl) rfl rfl ?_)
      exact E_round (i + 1, v2) (by show i + 1 ≤ 4; omega) (by show 4 - (i + 1) < 4 - i; omega) (by repeat' (first | exact True.intro | refine And.intro rfl ?_)) rfl
    · obtain ⟨q1, q2, q3⟩ := bits_step x h0 k2
      have htz := tz_calls x k2 h0
      have hb : o.length + 1 ≤ 256 := by rw [q2] at k3; simp at k3; omega
      have hor2 := hor _ q1
      have ha := bits_and_u64_nat x (x - 1) k2 (by omega)
      have hsub : IntKind.u64.wrap ((x : Int) - 1) = ((x - 1 : Nat) : Int) := by rw [IntKind.wrap_u64]; omega
      have hu8 : IntKind.u8.wrap ((64 * i + Lib.ctz 64 x : Nat) : Int) = ((UInt8.ofNat (64 * i + Lib.ctz 64 x)).toNat : Int) := u8of (by omega)
      have hup : upL i x = UInt8.ofNat (64 * i + Lib.ctz 64 x) :: upL i (x &&& (x - 1)) := by simp [upL, q2]
      have hlen : (bitsOf x).length = (bitsOf (x &&& (x - 1))).length + 1 := by rw [q2]; rfl
      clear q2
      generalize Lib.ctz 64 x = z at *
      generalize x &&& (x - 1) = y at *
      repeat (first
        | refine qv rfl (qp rfl) rfl rfl ?_ | refine TL_nil ?_ | refine T_seq ?_ | refine T_region ?_ | refine qcT rfl ?_ | refine qcF rfl ?_ | refine T_skip ?_
        | refine T_exit ?_ | refine T_ret ?_ | refine T_block ?_ | refine E_then ?_ | refine E_thenX ?_ | refine E_thenR ?_ | refine E_blockN ?_
        | refine E_blockR ?_ | refine E_blockX ?_ | refine E_blockO rfl ?_ | refine qv rfl (rr_shl rfl rfl hsh) rfl rfl ?_
        | refine qv rfl (rr_lss rfl rfl (qT (by omega))) rfl rfl ?_ | refine qv rfl (rr_lss rfl rfl (qF (by omega))) rfl rfl ?_
        | refine qv rfl (rr_neq rfl rfl (qT (by omega))) rfl rfl ?_ | refine qv rfl (rr_neq rfl rfl (qF (by omega))) rfl rfl ?_
        | refine qv rfl (rr_add64 rfl rfl (by omega) (by omega) rfl) rfl rfl ?_)
      refine TL_call (he1 EntersC.en rfl rfl) (fun w hm => htz _ (hT.up hm)) rfl rfl rfl ?_
      intro _ _
      repeat (first
        | refine qv rfl (qp rfl) rfl rfl ?_ | refine TL_nil ?_ | refine T_seq ?_ | refine T_region ?_ | refine qcT rfl ?_ | refine qcF rfl ?_ | refine T_skip ?_
        | refine T_exit ?_ | refine T_ret ?_ | refine T_block ?_ | refine E_then ?_ | refine E_thenX ?_ | refine E_thenR ?_ | refine E_blockN ?_
        | refine E_blockR ?_ | refine E_blockX ?_ | refine E_blockO rfl ?_ | refine qv rfl (rr_or rfl rfl hor2) rfl rfl ?_
        | refine qv rfl (rr_conv Und.eq Und.eq rfl hu8) rfl rfl ?_ | refine qv rfl (rr_lss rfl rfl (qT (by omega))) rfl rfl ?_
        | refine qv rfl (rr_lss rfl rfl (qF (by omega))) rfl rfl ?_ | refine qv rfl (rr_neq rfl rfl (qT (by omega))) rfl rfl ?_
        | refine qv rfl (rr_neq rfl rfl (qF (by omega))) rfl rfl ?_ | refine qv rfl (rr_add64 rfl rfl (by omega) (by omega) rfl) rfl rfl ?_)
      refine TL_push1 (i := 1) rfl rfl rfl rfl rfl rfl (fun z h => by cases h; rfl) (by omega) (by omega) rfl fun z' v' => ?_
      repeat (first
        | refine qv rfl (qp rfl) rfl rfl ?_ | refine TL_nil ?_ | refine T_seq ?_ | refine T_region ?_ | refine qcT rfl ?_ | refine qcF rfl ?_ | refine T_skip ?_
        | refine T_exit ?_ | refine T_ret ?_ | refine T_block ?_ | refine E_then ?_ | refine E_thenX ?_ | refine E_thenR ?_ | refine E_blockN ?_
        | refine E_blockR ?_ | refine E_blockX ?_ | refine E_blockO rfl ?_ | refine qv rfl (rr_subw rfl rfl hsub) rfl rfl ?_
        | refine qv rfl (rr_and rfl rfl ha) rfl rfl ?_ | refine qv rfl (rr_lss rfl rfl (qT (by omega))) rfl rfl ?_
        | refine qv rfl (rr_lss rfl rfl (qF (by omega))) rfl rfl ?_ | refine qv rfl (rr_neq rfl rfl (qT (by omega))) rfl rfl ?_
        | refine qv rfl (rr_neq rfl rfl (qF (by omega))) rfl rfl ?_ | refine qv rfl (rr_add64 rfl rfl (by omega) (by omega) rfl) rfl rfl ?_)
      refine E_pick [0, 1] (by decide) rfl ?_
      exact E_round (o ++ [UInt8.ofNat (64 * i + z)], y, v') ⟨by rw [List.append_assoc, ← k1, hup]; rfl, by show y < _; omega, by show (o ++ [_]).length + (bitsOf y).length ≤ _; simp; omega⟩ q3 (by repeat' (first | exact True.intro | refine And.intro rfl ?_)) (by simp only [List.map_append, List.length_append, List.map_cons, List.map_nil, List.length_cons, List.length_nil]; rfl)
  · obtain rfl : i = 4 := by omega
    have hs : toL c 4 = strL c := by unfold toL strL; rw [bytes_to]
    rw [hs]
    repeat (first
      | refine qv rfl (qp rfl) rfl rfl ?_ | refine TL_nil ?_ | refine T_seq ?_ | refine T_region ?_ | refine qcT rfl ?_ | refine qcF rfl ?_ | refine T_skip ?_
      | refine T_exit ?_ | refine T_ret ?_ | refine T_block ?_ | refine E_then ?_ | refine E_thenX ?_ | refine E_thenR ?_ | refine E_blockN ?_
      | refine E_blockR ?_ | refine E_blockX ?_ | refine E_blockO rfl ?_
      | refine qv rfl (rr_string Und.eq Und.eq Und.eq rfl rfl (sl_row (i := 1) rfl)) rfl rfl ?_ | refine qv rfl (rr_lss rfl rfl (qT (by omega))) rfl rfl ?_
      | refine qv rfl (rr_lss rfl rfl (qF (by omega))) rfl rfl ?_ | refine qv rfl (rr_neq rfl rfl (qT (by omega))) rfl rfl ?_
      | refine qv rfl (rr_neq rfl rfl (qF (by omega))) rfl rfl ?_ | refine qv rfl (rr_add64 rfl rfl (by omega) (by omega) rfl) rfl rfl ?_)
    exact E_ret1 rfl rfl fun w hm => hm.ret
theorem to_pre (c : C4) (i : Nat) (h : i < 4) : ∃ r, bytesL c = bytesTo c i ++ (bitsOf (c.get i).toNat).map (64 * i + ·) ++ r := by
  rw [← bytes_to]
  match i, h with
  | 0, _ => exact ⟨_, by simp only [bytesTo, List.append_assoc]; rfl⟩
  | 1, _ => exact ⟨_, by simp only [bytesTo, List.append_assoc]; rfl⟩
  | 2, _ => exact ⟨_, by simp only [bytesTo, List.append_assoc]; rfl⟩
  | 3, _ => exact ⟨[], by simp only [bytesTo, List.append_assoc, List.append_nil]⟩
theorem least_calls (c : C4) (w : World) (hT : TabW w) : Calls Tryd.prog 32 #[clsV c] w (Meets (ret (.int .i64 (leastF c))) w) := by
  refine enter (args := [.agg #[v64 c.a, v64 c.b, v64 c.c, v64 c.d]]) (n := 18) Tryd.func32 rfl rfl rfl ?_
  refine T_seq (T_region (TL_box rfl rfl rfl fun g => ?_))
  repeat (first
    | refine qv rfl (qp rfl) rfl rfl ?_ | refine TL_nil ?_ | refine T_seq ?_ | refine T_region ?_ | refine qcT rfl ?_ | refine qcF rfl ?_ | refine T_skip ?_
    | refine T_exit ?_ | refine T_ret ?_ | refine T_block ?_ | refine E_then ?_ | refine E_thenX ?_ | refine E_thenR ?_ | refine E_blockN ?_
    | refine E_blockR ?_ | refine E_blockX ?_ | refine E_blockO rfl ?_ | refine qv rfl (rr_loadB (i := 0) TyC.ty rfl rfl rfl) rfl rfl ?_
    | refine qv rfl (rr_lss rfl rfl (qT (by omega))) rfl rfl ?_ | refine qv rfl (rr_lss rfl rfl (qF (by omega))) rfl rfl ?_
    | refine qv rfl (rr_neq rfl rfl (qT (by omega))) rfl rfl ?_ | refine qv rfl (rr_neq rfl rfl (qF (by omega))) rfl rfl ?_
    | refine qv rfl (rr_add64 rfl rfl (by omega) (by omega) rfl) rfl rfl ?_)
  refine T_loop (ι := Nat) (fun i => i ≤ 4 ∧ bytesTo c i = []) (fun i => [(5, .agg #[v64 c.a, v64 c.b, v64 c.c, v64 c.d]), (6, .int .i64 (i : Int))]) (fun _ => [blkO g (Value.agg #[v64 c.a, v64 c.b, v64 c.c, v64 c.d]).cells 27]) (fun i => 4 - i) 0 ⟨by omega, rfl⟩ (by repeat' (first | exact True.intro | refine And.intro rfl ?_)) rfl ?_
  rintro i ⟨hi, hn⟩
  by_cases h4 : i < 4
  · have hc := cls_cell c i h4
    have hx := (c.get i).isLt
    have hsh := shl6 i h4
    have hor := or64i i h4
    by_cases h0 : (c.get i).toNat = 0
    · have he : bytesTo c (i + 1) = [] := by simp [bytesTo, hn, h0, bits_zero]
      rw [h0] at hc
      repeat (first
        | refine qv rfl (qp rfl) rfl rfl ?_ | refine TL_nil ?_ | refine T_seq ?_ | refine T_region ?_ | refine qcT rfl ?_ | refine qcF rfl ?_ | refine T_skip ?_
        | refine T_exit ?_ | refine T_ret ?_ | refine T_block ?_ | refine E_then ?_ | refine E_thenX ?_ | refine E_thenR ?_ | refine E_blockN ?_
        | refine E_blockR ?_ | refine E_blockX ?_ | refine E_blockO rfl ?_ | refine qv rfl (rr_arridx Und.eq TyC.ty rfl rfl h4 hc) rfl rfl ?_
        | refine qv rfl (rr_lss rfl rfl (qT (by omega))) rfl rfl ?_ | refine qv rfl (rr_lss rfl rfl (qF (by omega))) rfl rfl ?_
        | refine qv rfl (rr_neq rfl rfl (qT (by omega))) rfl rfl ?_ | refine qv rfl (rr_neq rfl rfl (qF (by omega))) rfl rfl ?_
        | refine qv rfl (rr_add64 rfl rfl (by omega) (by omega) rfl) rfl rfl ?_)
      exact E_round (i + 1) ⟨by omega, he⟩ (by show 4 - (i + 1) < 4 - i; omega) (by repeat' (first | exact True.intro | refine And.intro rfl ?_)) rfl
    · obtain ⟨r, hr⟩ := to_pre c i h4
      obtain ⟨q1, q2, q3⟩ := bits_step _ h0 hx
      have htz := tz_calls _ hx h0
      have hor2 := hor _ q1
      rw [hn, q2] at hr
      have hl : leastF c = ((64 * i + Lib.ctz 64 (c.get i).toNat : Nat) : Int) := by unfold leastF; rw [hr]; rfl
      rw [hl]
      clear q2 q3 hr hl
      generalize Lib.ctz 64 (c.get i).toNat = z at *
      generalize (c.get i).toNat = x at *
      repeat (first
        | refine qv rfl (qp rfl) rfl rfl ?_ | refine TL_nil ?_ | refine T_seq ?_ | refine T_region ?_ | refine qcT rfl ?_ | refine qcF rfl ?_ | refine T_skip ?_
        | refine T_exit ?_ | refine T_ret ?_ | refine T_block ?_ | refine E_then ?_ | refine E_thenX ?_ | refine E_thenR ?_ | refine E_blockN ?_
        | refine E_blockR ?_ | refine E_blockX ?_ | refine E_blockO rfl ?_ | refine qv rfl (rr_arridx Und.eq TyC.ty rfl rfl h4 hc) rfl rfl ?_
        | refine qv rfl (rr_shl rfl rfl hsh) rfl rfl ?_ | refine qv rfl (rr_lss rfl rfl (qT (by omega))) rfl rfl ?_
        | refine qv rfl (rr_lss rfl rfl (qF (by omega))) rfl rfl ?_ | refine qv rfl (rr_neq rfl rfl (qT (by omega))) rfl rfl ?_
        | refine qv rfl (rr_neq rfl rfl (qF (by omega))) rfl rfl ?_ | refine qv rfl (rr_add64 rfl rfl (by omega) (by omega) rfl) rfl rfl ?_)
      refine TL_call (he1 EntersC.en rfl rfl) (fun w hm => htz _ (hT.up hm)) rfl rfl rfl ?_
      intro _ _
      repeat (first
        | refine qv rfl (qp rfl) rfl rfl ?_ | refine TL_nil ?_ | refine T_seq ?_ | refine T_region ?_ | refine qcT rfl ?_ | refine qcF rfl ?_ | refine T_skip ?_
        | refine T_exit ?_ | refine T_ret ?_ | refine T_block ?_ | refine E_then ?_ | refine E_thenX ?_ | refine E_thenR ?_ | refine E_blockN ?_
        | refine E_blockR ?_ | refine E_blockX ?_ | refine E_blockO rfl ?_ | refine qv rfl (rr_or rfl rfl hor2) rfl rfl ?_
        | refine qv rfl (rr_lss rfl rfl (qT (by omega))) rfl rfl ?_ | refine qv rfl (rr_lss rfl rfl (qF (by omega))) rfl rfl ?_
        | refine qv rfl (rr_neq rfl rfl (qT (by omega))) rfl rfl ?_ | refine qv rfl (rr_neq rfl rfl (qF (by omega))) rfl rfl ?_
        | refine qv rfl (rr_add64 rfl rfl (by omega) (by omega) rfl) rfl rfl ?_)
      exact E_ret1 rfl rfl fun w hm => hm.ret
  · obtain rfl : i = 4 := by omega
    have hl : leastF c = -1 := by unfold leastF; rw [← bytes_to, hn]
    rw [hl]
    repeat (first
      | refine qv rfl (qp rfl) rfl rfl ?_ | refine TL_nil ?_ | refine T_seq ?_ | refine T_region ?_ | refine qcT rfl ?_ | refine qcF rfl ?_ | refine T_skip ?_
      | refine T_exit ?_ | refine T_ret ?_ | refine T_block ?_ | refine E_then ?_ | refine E_thenX ?_ | refine E_thenR ?_ | refine E_blockN ?_
      | refine E_blockR ?_ | refine E_blockX ?_ | refine E_blockO rfl ?_ | refine qv rfl (rr_lss rfl rfl (qT (by omega))) rfl rfl ?_
      | refine qv rfl (rr_lss rfl rfl (qF (by omega))) rfl rfl ?_ | refine qv rfl (rr_neq rfl rfl (qT (by omega))) rfl rfl ?_
      | refine qv rfl (rr_neq rfl rfl (qF (by omega))) rfl rfl ?_ | refine qv rfl (rr_add64 rfl rfl (by omega) (by omega) rfl) rfl rfl ?_)
    exact E_ret1 rfl rfl fun w hm => hm.ret
end Go.Proofs.YtbiacehgfmgfdaaDoor.eng
