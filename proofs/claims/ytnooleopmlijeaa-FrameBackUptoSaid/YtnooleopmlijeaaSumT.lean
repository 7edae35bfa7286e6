/- The plain law of SumTells: bits that are turned within 32 in a row give another sum. -/
import Derived.Test.YtnooleopmlijeaaSumL
namespace Go.Proofs.Ytnooleopmlijeaa.sumL

theorem bitB_zero (z : BitVec 32) (h : bitB z = 0#32) : z = 0#32 := by
  rw [bitB_if] at h
  have hz : z.getLsbD 0 = false := by
    cases h0 : z.getLsbD 0
    · rfl
    · rw [h0] at h
      have h31 := congrArg (fun x => BitVec.getLsbD x 31) h
      simp at h31
  rw [hz] at h
  simp only [Bool.false_eq_true, if_false, BitVec.xor_zero] at h
  apply BitVec.eq_of_toNat_eq
  have h1 := congrArg BitVec.toNat h
  rw [BitVec.toNat_ushiftRight, Nat.shiftRight_eq_div_pow] at h1
  rw [BitVec.getLsbD, Nat.testBit_zero] at hz
  simp at h1 hz ⊢
  omega
theorem bitB_inj {x y : BitVec 32} (h : bitB x = bitB y) : x = y := by
  have h1 : bitB (x ^^^ y) = 0#32 := by rw [bitB_xor, h, BitVec.xor_self]
  have h2 := bitB_zero _ h1
  have h3 : x ^^^ (x ^^^ y) = x ^^^ 0#32 := by rw [h2]
  rw [xself, BitVec.xor_zero] at h3
  exact h3.symm
theorem bits8_inj {x y : BitVec 32} : ∀ (k : Nat), bits8 x k = bits8 y k → x = y
  | 0, h => h
  | k + 1, h => bits8_inj k (bitB_inj h)
theorem byteB_inj {x y : BitVec 32} (b : UInt8) (h : byteB x b = byteB y b) : x = y := by
  have h1 := bits8_inj 8 h
  have h2 := congrArg (fun z => z ^^^ BitVec.ofNat 32 b.toNat) h1
  simpa [BitVec.xor_assoc] using h2
theorem roll_inj {x y : BitVec 32} : ∀ (l : List UInt8), roll x l = roll y l → x = y
  | [], h => h
  | b :: l, h => byteB_inj b (roll_inj l h)

def zx (a b : List UInt8) : List UInt8 := List.zipWith (fun x y => x ^^^ y) a b
theorem roll_zx : ∀ (a b : List UInt8) (x y : BitVec 32), a.length = b.length → roll (x ^^^ y) (zx a b) = roll x a ^^^ roll y b
  | [], [], _, _, _ => rfl
  | a :: as, b :: bs, x, y, h => by
    have ih := roll_zx as bs (byteB x a) (byteB y b) (by simpa using h)
    simp only [zx, List.zipWith_cons_cons, roll, List.foldl_cons] at ih ⊢
    rw [byteB_xor]
    exact ih
  | [], _ :: _, _, _, h => by simp at h
  | _ :: _, [], _, _, h => by simp at h

/-- the register with the message ahead of it -/
def B64 (r : BitVec 64) : BitVec 64 := (r >>> 1) ^^^ (if r.getLsbD 0 then 3988292384#64 else 0#64)
def B64n (r : BitVec 64) : Nat → BitVec 64
  | 0 => r
  | k + 1 => B64 (B64n r k)
theorem xlc64 (x y z : BitVec 64) : x ^^^ (y ^^^ z) = y ^^^ (x ^^^ z) := by
  rw [← BitVec.xor_assoc, BitVec.xor_comm x y, BitVec.xor_assoc]
theorem B64_xor (x y : BitVec 64) : B64 (x ^^^ y) = B64 x ^^^ B64 y := by
  unfold B64
  rw [BitVec.ushiftRight_xor_distrib, BitVec.getLsbD_xor]
  generalize x >>> 1 = p
  generalize y >>> 1 = q
  generalize 3988292384#64 = c
  cases x.getLsbD 0 <;> cases y.getLsbD 0
  · simp
  · simp [BitVec.xor_assoc]
  · simp [BitVec.xor_assoc, BitVec.xor_comm c q]
  · show p ^^^ q ^^^ 0#64 = p ^^^ c ^^^ (q ^^^ c)
    rw [BitVec.xor_zero, BitVec.xor_assoc p c, xlc64 c q c, BitVec.xor_self, BitVec.xor_zero]
theorem B64n_xor (x y : BitVec 64) (k : Nat) : B64n (x ^^^ y) k = B64n x k ^^^ B64n y k := by
  induction k with
  | zero => rfl
  | succ k ih => rw [B64n, B64n, B64n, ih, B64_xor]
theorem shr_wide (x : BitVec 32) : (x.setWidth 64) >>> 1 = (x >>> 1).setWidth 64 := by
  apply BitVec.eq_of_toNat_eq
  have := x.isLt
  simp only [BitVec.toNat_ushiftRight, BitVec.toNat_setWidth, Nat.shiftRight_eq_div_pow]
  omega
theorem B64_wide (x : BitVec 32) : B64 (x.setWidth 64) = (bitB x).setWidth 64 := by
  have h0 : (x.setWidth 64).getLsbD 0 = x.getLsbD 0 := by simp
  rw [bitB_if, BitVec.setWidth_xor, B64, shr_wide, h0]
  cases x.getLsbD 0 <;> rfl
theorem B64n_wide (x : BitVec 32) (k : Nat) : B64n (x.setWidth 64) k = (bits8 x k).setWidth 64 := by
  induction k with
  | zero => rfl
  | succ k ih => rw [B64n, bits8, ih, B64_wide]
theorem B64_even (n : Nat) (h : n < 2 ^ 63) : B64 (BitVec.ofNat 64 (2 * n)) = BitVec.ofNat 64 n := by
  unfold B64
  have h0 : (BitVec.ofNat 64 (2 * n)).getLsbD 0 = false := by
    rw [BitVec.getLsbD, Nat.testBit_zero]; simp
  rw [h0]
  apply BitVec.eq_of_toNat_eq
  simp [BitVec.toNat_ushiftRight, Nat.shiftRight_eq_div_pow]
  omega
theorem B64n_succ' (r : BitVec 64) (k : Nat) : B64n r (k + 1) = B64n (B64 r) k := by
  induction k with
  | zero => rfl
  | succ k ih => rw [B64n, ih, B64n]
theorem B64n_add (r : BitVec 64) (j k : Nat) : B64n r (j + k) = B64n (B64n r j) k := by
  induction k with
  | zero => rfl
  | succ k ih => rw [← Nat.add_assoc, B64n, ih, B64n]
theorem B64n_shift (n : Nat) : ∀ (k : Nat), 2 ^ k * n < 2 ^ 64 → B64n (BitVec.ofNat 64 (2 ^ k * n)) k = BitVec.ofNat 64 n
  | 0, _ => by simp [B64n]
  | k + 1, h => by
    rw [B64n_succ', show 2 ^ (k + 1) * n = 2 * (2 ^ k * n) by rw [Nat.pow_succ, Nat.mul_comm (2 ^ k) 2, Nat.mul_assoc], B64_even _ (by rw [Nat.pow_succ, Nat.mul_comm (2 ^ k) 2, Nat.mul_assoc] at h; omega)]
    exact B64n_shift n k (by rw [Nat.pow_succ, Nat.mul_comm (2 ^ k) 2, Nat.mul_assoc] at h; omega)
theorem add_xor (a m : Nat) (h : a < 256) : 256 * m + a = (256 * m) ^^^ a := by
  apply Nat.eq_of_testBit_eq
  intro j
  rw [show 256 = 2 ^ 8 from rfl, Nat.testBit_two_pow_mul_add m (i := 8) h, Nat.testBit_xor, Nat.testBit_two_pow_mul]
  by_cases hj : j < 8
  · rw [if_pos hj]
    have : decide (j ≥ 8) = false := by simp; omega
    rw [this]; simp
  · rw [if_neg hj]
    have : a.testBit j = false := Nat.testBit_lt_two_pow (Nat.lt_of_lt_of_le h (Nat.pow_le_pow_right (by decide) (by omega) : 2 ^ 8 ≤ 2 ^ j))
    have h8 : decide (j ≥ 8) = true := by simp; omega
    rw [this, h8]; simp
theorem split64 (n : Nat) : BitVec.ofNat 64 n = BitVec.ofNat 64 (n % 256) ^^^ BitVec.ofNat 64 (256 * (n / 256)) := by
  rw [BitVec.xor_comm, ← BitVec.ofNat_xor, ← add_xor _ _ (Nat.mod_lt _ (by decide))]
  congr 1
  omega
theorem feed8 (x : BitVec 32) (n : Nat) (h : n < 2 ^ 64) : B64n (x.setWidth 64 ^^^ BitVec.ofNat 64 n) 8 = (byteB x (UInt8.ofNat n)).setWidth 64 ^^^ BitVec.ofNat 64 (n / 256) := by
  rw [split64, ← BitVec.xor_assoc, B64n_xor]
  congr 1
  · rw [byteB, ← B64n_wide, BitVec.setWidth_xor]
    congr 2
    apply BitVec.eq_of_toNat_eq
    simp
    omega
  · exact B64n_shift (n / 256) 8 (by omega)
/-- the first m bytes of a number -/
def lows (n : Nat) : Nat → List UInt8
  | 0 => []
  | m + 1 => UInt8.ofNat n :: lows (n / 256) m
theorem feed_all (m : Nat) : ∀ (x : BitVec 32) (n : Nat), n < 2 ^ 64 → B64n (x.setWidth 64 ^^^ BitVec.ofNat 64 n) (8 * m) = (roll x (lows n m)).setWidth 64 ^^^ BitVec.ofNat 64 (n / 256 ^ m) := by
  induction m with
  | zero => intro x n _; simp [B64n, roll, lows]
  | succ m ih =>
    intro x n h
    rw [show 8 * (m + 1) = 8 + 8 * m by omega, B64n_add, feed8 x n h, ih _ _ (by omega)]
    rw [Nat.div_div_eq_div_mul, Nat.pow_succ, Nat.mul_comm (256 ^ m) 256]
    rfl
theorem roll_lows_ne (b r : Nat) (hb : 0 < b) (hb2 : b < 2 ^ 32) (hr : r < 8) : roll 0#32 (lows (2 ^ r * b) 5) ≠ 0#32 := by
  intro h
  have hp : 2 ^ r ≤ 2 ^ 7 := Nat.pow_le_pow_right (by decide) (by omega)
  have hlt : 2 ^ r * b < 2 ^ 40 := by
    have : 2 ^ r * b ≤ 2 ^ 7 * b := Nat.mul_le_mul_right _ hp
    omega
  have h1 := feed_all 5 0#32 (2 ^ r * b) (by omega)
  rw [h, show 8 * 5 = r + (40 - r) by omega, Nat.div_eq_of_lt (by simpa using hlt)] at h1
  have e0 : (0#32).setWidth 64 ^^^ BitVec.ofNat 64 (2 ^ r * b) = BitVec.ofNat 64 (2 ^ r * b) := by simp
  have e1 : (0#32).setWidth 64 ^^^ BitVec.ofNat 64 0 = (0#32).setWidth 64 := by simp
  have e2 : BitVec.ofNat 64 b = (BitVec.ofNat 32 b).setWidth 64 := by
    apply BitVec.eq_of_toNat_eq
    simp
    omega
  rw [e0, B64n_add, B64n_shift b r (by omega), e1, e2, B64n_wide] at h1
  have h2 : bits8 (BitVec.ofNat 32 b) (40 - r) = bits8 0#32 (40 - r) := by
    have hz : ∀ k, bits8 0#32 k = 0#32 := fun k => by
      induction k with
      | zero => rfl
      | succ k ih => rw [bits8, ih]; decide
    rw [hz]
    apply BitVec.eq_of_toNat_eq
    have h9 := congrArg BitVec.toNat h1
    have h8 := (bits8 (BitVec.ofNat 32 b) (40 - r)).isLt
    simp at h9 ⊢
    omega
  have h3 := congrArg BitVec.toNat (bits8_inj _ h2)
  simp at h3
  omega
/-- the law -/
theorem tells (s1 s2 s3 : List UInt8) (b r : Nat) (hb : 0 < b) (hb2 : b < 2 ^ 32) (hr : r < 8) (h5 : s2.length = 5) :
    crc (s1 ++ s2 ++ s3) ≠ crc (s1 ++ zx s2 (lows (2 ^ r * b) 5) ++ s3) := by
  intro h
  unfold crc more at h
  have h1 : roll (~~~0) (s1 ++ s2 ++ s3) = roll (~~~0) (s1 ++ zx s2 (lows (2 ^ r * b) 5) ++ s3) := by
    have := congrArg (fun x => ~~~x) h
    simpa using this
  have app : ∀ x a b, roll x (a ++ b) = roll (roll x a) b := fun x a b => by simp [roll]
  rw [app, app, app, app] at h1
  have h2 := roll_inj s3 h1
  generalize roll (~~~0) s1 = y at h2
  have h3 := roll_zx s2 (lows (2 ^ r * b) 5) y 0#32 (by rw [h5]; rfl)
  rw [BitVec.xor_zero] at h3
  rw [h3] at h2
  have h4 : roll y s2 ^^^ roll y s2 = roll y s2 ^^^ (roll y s2 ^^^ roll 0#32 (lows (2 ^ r * b) 5)) := by rw [← h2]
  rw [xself, BitVec.xor_self] at h4
  exact roll_lows_ne b r hb hb2 hr h4.symm
/-- the loop of the law: i bytes are turned -/
def turn (l : List UInt8) (p W : Nat) : Nat → List UInt8
  | 0 => l
  | i + 1 => (turn l p W i).set (p + i) ((turn l p W i).getD (p + i) 0 ^^^ UInt8.ofNat (W / 256 ^ i))
theorem turn_length (l : List UInt8) (p W i : Nat) : (turn l p W i).length = l.length := by
  induction i with
  | zero => rfl
  | succ i ih => rw [turn, List.length_set, ih]
theorem lows_get : ∀ (n m i : Nat), i < m → (lows n m)[i]? = some (UInt8.ofNat (n / 256 ^ i))
  | n, m + 1, 0, _ => by simp [lows]
  | n, m + 1, i + 1, h => by
    rw [lows, List.getElem?_cons_succ, lows_get (n / 256) m i (by omega), Nat.div_div_eq_div_mul, Nat.pow_succ, Nat.mul_comm 256]
  | n, 0, i, h => by omega
theorem lows_length : ∀ (n m : Nat), (lows n m).length = m
  | _, 0 => rfl
  | n, m + 1 => by rw [lows, List.length_cons, lows_length]
theorem turn_get (l : List UInt8) (p W : Nat) : ∀ (i j : Nat), p + i ≤ l.length → j < l.length →
    (turn l p W i)[j]? = some (if p ≤ j ∧ j < p + i then l.getD j 0 ^^^ UInt8.ofNat (W / 256 ^ (j - p)) else l.getD j 0)
  | 0, j, _, hj => by
    rw [if_neg (by omega), turn]; simp [List.getElem?_eq_getElem hj]
  | i + 1, j, h, hj => by
    have ih := turn_get l p W i j (by omega) hj
    have hlen := turn_length l p W i
    rw [turn]
    by_cases e : p + i = j
    · subst e
      rw [List.getElem?_set_self (by omega), if_pos (by omega)]
      rw [if_neg (by omega)] at ih
      rw [List.getD_eq_getElem?_getD, ih]
      simp
    · rw [List.getElem?_set_ne e, ih]
      by_cases c : p ≤ j ∧ j < p + i
      · rw [if_pos c, if_pos (by omega)]
      · rw [if_neg c, if_neg (by omega)]
theorem turn_zx (l : List UInt8) (p W : Nat) (h : p + 5 ≤ l.length) : turn l p W 5 = l.take p ++ zx ((l.drop p).take 5) (lows W 5) ++ l.drop (p + 5) := by
  apply List.ext_getElem?
  intro j
  have hz : (zx ((l.drop p).take 5) (lows W 5)).length = 5 := by simp [zx, lows_length]; omega
  have ht : (l.take p).length = p := by simp; omega
  by_cases hj : j < l.length
  · rw [turn_get l p W 5 j h hj]
    rw [List.getD_eq_getElem?_getD, List.getElem?_eq_getElem hj]
    by_cases c : p ≤ j ∧ j < p + 5
    · rw [if_pos c, List.append_assoc, List.getElem?_append_right (by omega), List.getElem?_append_left (by omega), ht]
      unfold zx
      rw [List.getElem?_zipWith, List.getElem?_take, if_pos (by omega), List.getElem?_drop, lows_get _ _ _ (by omega), show p + (j - p) = j by omega, List.getElem?_eq_getElem hj]
      rfl
    · rw [if_neg c]
      by_cases c2 : j < p
      · rw [List.append_assoc, List.getElem?_append_left (by omega), List.getElem?_take, if_pos c2, List.getElem?_eq_getElem hj]; rfl
      · rw [List.append_assoc, List.getElem?_append_right (by omega), List.getElem?_append_right (by omega), ht, hz, List.getElem?_drop, show p + 5 + (j - p - 5) = j by omega, List.getElem?_eq_getElem hj]; rfl
  · rw [List.getElem?_eq_none (by rw [turn_length]; omega), List.getElem?_eq_none]
    simp only [List.length_append, ht, hz, List.length_drop]; omega
theorem tells_turn (l : List UInt8) (k b : Nat) (hb : 0 < b) (hb2 : b < 2 ^ 32) (h : k / 8 + 5 ≤ l.length) : crc l ≠ crc (turn l (k / 8) (2 ^ (k % 8) * b) 5) := by
  rw [turn_zx _ _ _ h]
  have e : l = l.take (k / 8) ++ (l.drop (k / 8)).take 5 ++ l.drop (k / 8 + 5) := by
    rw [List.append_assoc, ← List.drop_drop, List.take_append_drop, List.take_append_drop]
  have h1 := tells (l.take (k / 8)) ((l.drop (k / 8)).take 5) (l.drop (k / 8 + 5)) b (k % 8) hb hb2 (Nat.mod_lt _ (by decide)) (by simp; omega)
  rw [← e] at h1
  exact h1
end Go.Proofs.Ytnooleopmlijeaa.sumL
