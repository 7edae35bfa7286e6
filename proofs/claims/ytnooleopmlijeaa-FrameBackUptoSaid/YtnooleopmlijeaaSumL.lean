/- The plain mathematics of the check sum: no program in sight. -/
import Derived.Laws.Entries
import Derived.Laws.BitsAllLaws
namespace Go.Proofs.Ytnooleopmlijeaa.sumL

def bitB (r : BitVec 32) : BitVec 32 := (r >>> 1) ^^^ (0xedb88320#32 &&& (-(r &&& 1#32)))
def bits8 (r : BitVec 32) : Nat → BitVec 32
  | 0 => r
  | k + 1 => bitB (bits8 r k)
def byteB (r : BitVec 32) (b : UInt8) : BitVec 32 := bits8 (r ^^^ BitVec.ofNat 32 b.toNat) 8
def roll (r : BitVec 32) (l : List UInt8) : BitVec 32 := l.foldl byteB r
def more (s : BitVec 32) (l : List UInt8) : BitVec 32 := ~~~ roll (~~~ s) l

/-- sum.Sum -/
def crc (l : List UInt8) : BitVec 32 := more 0 l

/-- a word of 32 bits as the model's number -/
def n32 (x : BitVec 32) : Int := x.toNat

theorem n32_lo (x : BitVec 32) : 0 ≤ n32 x := by unfold n32; omega
theorem n32_hi (x : BitVec 32) : n32 x ≤ 4294967295 := by have := x.isLt; unfold n32; omega
theorem wrap32 (x : BitVec 32) : IntKind.u32.wrap (n32 x) = n32 x := by
  have := x.isLt
  unfold n32
  rw [IntKind.wrap_u32']; omega
theorem ofInt32 (x : BitVec 32) : BitVec.ofInt 32 (n32 x) = x := by
  apply BitVec.eq_of_toNat_eq; simp [n32]
theorem n32_of (n : Int) (h0 : 0 ≤ n) (h1 : n ≤ 4294967295) : n = n32 (BitVec.ofInt 32 n) := by
  unfold n32
  rw [BitVec.toNat_ofInt]; omega

theorem xor32 (x y : BitVec 32) : bits .xor .u32 (n32 x) (n32 y) = n32 (x ^^^ y) := by
  unfold bits
  simp only [IntKind.bits, ofInt32]
  exact wrap32 _
theorem and32 (x y : BitVec 32) : bits .and .u32 (n32 x) (n32 y) = n32 (x &&& y) := by
  unfold bits
  simp only [IntKind.bits, ofInt32]
  exact wrap32 _
theorem not32m (x : BitVec 32) : bits .xor .u32 IntKind.u32.max (n32 x) = n32 (~~~ x) := by
  have h := xor32 (BitVec.allOnes 32) x
  rw [BitVec.allOnes_xor] at h
  rw [← h]; rfl
theorem one32 (x : BitVec 32) : bits .and .u32 (n32 x) 1 = n32 (x &&& 1#32) := and32 x 1#32
theorem poly32 (y : BitVec 32) : bits .and .u32 3988292384 (n32 y) = n32 (3988292384#32 &&& y) := by
  rw [← and32]; rfl
theorem neg32 (x : BitVec 32) : IntKind.u32.wrap (-(n32 x)) = n32 (-x) := by
  have := x.isLt
  unfold n32
  rw [IntKind.wrap_u32', BitVec.toNat_neg]
  omega
theorem neg32' (x : BitVec 32) : IntKind.u32.wrap (0 - (n32 x)) = n32 (-x) := by
  rw [Int.zero_sub, neg32]
theorem shr32 (x : BitVec 32) : n32 x / (2 : Int) = n32 (x >>> 1) := by
  unfold n32
  rw [BitVec.toNat_ushiftRight, Nat.shiftRight_eq_div_pow]; omega
theorem byte32 (x : BitVec 32) (b : UInt8) : bits .xor .u32 (n32 x) (b.toNat : Int) = n32 (x ^^^ BitVec.ofNat 32 b.toNat) := by
  have h : (b.toNat : Int) = n32 (BitVec.ofNat 32 b.toNat) := by
    have := b.toNat_lt
    unfold n32
    rw [BitVec.toNat_ofNat]; omega
  rw [h, xor32]
theorem byte32' (x : BitVec 32) (b : UInt8) : bits .xor .u32 (n32 x) ((b.toNat : Int) % 4294967296) = n32 (x ^^^ BitVec.ofNat 32 b.toNat) := by
  have h : (b.toNat : Int) % 4294967296 = b.toNat := by have := b.toNat_lt; omega
  rw [h, byte32]
theorem bits8_succ (r : BitVec 32) (k : Nat) : bitB (bits8 r k) = bits8 r (k + 1) := rfl
theorem bitB_eq (r : BitVec 32) : bits .xor .u32 (n32 r / (2 : Int)) (n32 (3988292384#32 &&& -(r &&& 1#32))) = n32 (bitB r) := by
  rw [shr32, xor32]; rfl
theorem more_end (x : BitVec 32) (l : List UInt8) (k : Nat) (h : l.length ≤ k) : n32 (~~~ roll (~~~ x) (l.take k)) = n32 (more x l) := by
  rw [List.take_of_length_le h, more]
theorem roll_snoc (r : BitVec 32) (l : List UInt8) (b : UInt8) : roll r (l ++ [b]) = byteB (roll r l) b := by
  simp [roll]
theorem take_snoc (s : ByteArray) (k : Nat) (h : k < s.size) : s.data.toList.take (k + 1) = s.data.toList.take k ++ [s[k]] := by
  rw [List.take_succ_eq_append_getElem (by simpa using h)]; rfl

theorem more_more (x : BitVec 32) (a b : List UInt8) : more (more x a) b = more x (a ++ b) := by
  simp [more, roll]
theorem crc_more (a b : List UInt8) : more (crc a) b = crc (a ++ b) := more_more 0 a b
theorem n32_inj {x y : BitVec 32} (h : n32 x = n32 y) : x = y := by
  apply BitVec.eq_of_toNat_eq; unfold n32 at h; omega
theorem low_mask (x : BitVec 32) : -(x &&& 1#32) = if x.getLsbD 0 then BitVec.allOnes 32 else 0#32 := by
  rw [BitVec.and_one_eq_setWidth_ofBool_getLsbD]
  cases x.getLsbD 0 <;> decide
theorem bitB_if (r : BitVec 32) : bitB r = (r >>> 1) ^^^ (if r.getLsbD 0 then 3988292384#32 else 0#32) := by
  unfold bitB
  rw [low_mask]
  cases r.getLsbD 0 <;> simp
theorem xlc (x y z : BitVec 32) : x ^^^ (y ^^^ z) = y ^^^ (x ^^^ z) := by
  rw [← BitVec.xor_assoc, BitVec.xor_comm x y, BitVec.xor_assoc]
theorem xself (x y : BitVec 32) : x ^^^ (x ^^^ y) = y := by
  rw [← BitVec.xor_assoc, BitVec.xor_self, BitVec.zero_xor]
theorem bitB_xor (x y : BitVec 32) : bitB (x ^^^ y) = bitB x ^^^ bitB y := by
  rw [bitB_if, bitB_if, bitB_if, BitVec.ushiftRight_xor_distrib, BitVec.getLsbD_xor]
  generalize x >>> 1 = p
  generalize y >>> 1 = q
  generalize 3988292384#32 = c
  cases x.getLsbD 0 <;> cases y.getLsbD 0
  · simp
  · simp [BitVec.xor_assoc]
  · simp [BitVec.xor_assoc, BitVec.xor_comm c q]
  · show p ^^^ q ^^^ 0#32 = p ^^^ c ^^^ (q ^^^ c)
    rw [BitVec.xor_zero, BitVec.xor_assoc p c, xlc c q c, BitVec.xor_self, BitVec.xor_zero]
theorem bits8_xor (x y : BitVec 32) (k : Nat) : bits8 (x ^^^ y) k = bits8 x k ^^^ bits8 y k := by
  induction k with
  | zero => rfl
  | succ k ih => rw [bits8, bits8, bits8, ih, bitB_xor]
theorem b32_xor (a b : UInt8) : BitVec.ofNat 32 (a ^^^ b).toNat = BitVec.ofNat 32 a.toNat ^^^ BitVec.ofNat 32 b.toNat := by
  rw [UInt8.toNat_xor, BitVec.ofNat_xor]
theorem byteB_xor (x y : BitVec 32) (a b : UInt8) : byteB (x ^^^ y) (a ^^^ b) = byteB x a ^^^ byteB y b := by
  unfold byteB
  rw [← bits8_xor, b32_xor]
  congr 1
  rw [BitVec.xor_assoc, BitVec.xor_assoc, xlc y]
def xs3 (a b c : List UInt8) : List UInt8 := (a.zip (b.zip c)).map fun x => x.1 ^^^ x.2.1 ^^^ x.2.2
theorem roll_xs3 : ∀ (a b c : List UInt8) (x y z : BitVec 32), a.length = b.length → b.length = c.length → roll (x ^^^ y ^^^ z) (xs3 a b c) = roll x a ^^^ roll y b ^^^ roll z c
  | [], [], [], _, _, _, _, _ => rfl
  | a :: as, b :: bs, c :: cs, x, y, z, h1, h2 => by
    have ih := roll_xs3 as bs cs (byteB x a) (byteB y b) (byteB z c) (by simpa using h1) (by simpa using h2)
    simp only [xs3, List.zip_cons_cons, List.map_cons, roll, List.foldl_cons] at ih ⊢
    rw [byteB_xor, byteB_xor]
    exact ih
  | [], _ :: _, _, _, _, _, h1, _ => by simp at h1
  | _ :: _, [], _, _, _, _, h1, _ => by simp at h1
  | [], [], _ :: _, _, _, _, _, h2 => by simp at h2
  | _ :: _, _ :: _, [], _, _, _, _, h2 => by simp at h2
theorem more_xs3 (a b c : List UInt8) (h1 : a.length = b.length) (h2 : b.length = c.length) : crc (xs3 a b c) = crc a ^^^ crc b ^^^ crc c := by
  have h := roll_xs3 a b c (~~~0) (~~~0) (~~~0) h1 h2
  have e : (~~~(0 : BitVec 32)) ^^^ ~~~(0 : BitVec 32) ^^^ ~~~(0 : BitVec 32) = ~~~(0 : BitVec 32) := by decide
  rw [e] at h
  unfold crc more
  rw [h]
  generalize roll (~~~(0 : BitVec 32)) a = p
  generalize roll (~~~(0 : BitVec 32)) b = q
  generalize roll (~~~(0 : BitVec 32)) c = r
  ext i hi
  simp only [BitVec.getElem_not, BitVec.getElem_xor]
  cases p[i] <;> cases q[i] <;> cases r[i] <;> rfl
theorem known_a : n32 (crc [97]) = 3904355907 := by decide +kernel
theorem known : n32 (crc [49, 50, 51, 52, 53, 54, 55, 56, 57]) = 3421780262 := by decide +kernel

end Go.Proofs.Ytnooleopmlijeaa.sumL
