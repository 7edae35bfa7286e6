/- The plain law of classes of bytes: no program in sight. -/
import Derived.Laws.Entries
import Derived.Laws.BitsAllLaws
import Derived.Laws.BitsLemmas
namespace Go.Proofs.YtbiacehgfmgfdaaDoor.classL
/-- a word of 64 bits as the model's number -/
def n64 (x : BitVec 64) : Int := x.toNat
abbrev v64 (x : BitVec 64) : Value := .int .u64 (n64 x)
theorem n64_lo (x : BitVec 64) : 0 ≤ n64 x := by unfold n64; omega
theorem n64_hi (x : BitVec 64) : n64 x ≤ 18446744073709551615 := by have := x.isLt; unfold n64; omega
theorem n64_inj {x y : BitVec 64} (h : n64 x = n64 y) : x = y := by
  apply BitVec.eq_of_toNat_eq; unfold n64 at h; omega
theorem n64_eq (x y : BitVec 64) : (n64 x == n64 y) = (x == y) := by
  by_cases h : x = y
  · subst h; simp
  · have : n64 x ≠ n64 y := fun e => h (n64_inj e)
    rw [beq_eq_false_iff_ne.2 this, beq_eq_false_iff_ne.2 h]
theorem wrap64 (x : BitVec 64) : IntKind.u64.wrap (n64 x) = n64 x := by
  have := x.isLt
  unfold n64
  rw [IntKind.wrap_u64]; omega
theorem ofInt64 (x : BitVec 64) : BitVec.ofInt 64 (n64 x) = x := by
  apply BitVec.eq_of_toNat_eq; simp [n64]
theorem and64 (x y : BitVec 64) : bits .and .u64 (n64 x) (n64 y) = n64 (x &&& y) := by
  unfold bits; simp only [IntKind.bits, ofInt64]; exact wrap64 _
theorem or64 (x y : BitVec 64) : bits .or .u64 (n64 x) (n64 y) = n64 (x ||| y) := by
  unfold bits; simp only [IntKind.bits, ofInt64]; exact wrap64 _
theorem xor64 (x y : BitVec 64) : bits .xor .u64 (n64 x) (n64 y) = n64 (x ^^^ y) := by
  unfold bits; simp only [IntKind.bits, ofInt64]; exact wrap64 _
theorem not64 (x : BitVec 64) : bits .xor .u64 IntKind.u64.max (n64 x) = n64 (~~~ x) := by
  have h := xor64 (BitVec.allOnes 64) x
  rw [BitVec.allOnes_xor] at h
  rw [← h]; rfl
theorem i64_and63 (b : Nat) (h : b < 4294967296) : bits .and .i64 (b : Int) 63 = ((b % 64 : Nat) : Int) := by
  have e1 : BitVec.ofInt 64 (b : Int) = BitVec.ofNat 64 b := by simp
  have e2 : (BitVec.ofNat 64 b &&& 63#64).toNat = b % 64 := by
    rw [BitVec.toNat_and, BitVec.toNat_ofNat, Nat.mod_eq_of_lt (by omega : b < 2 ^ 64)]
    exact Nat.and_two_pow_sub_one_eq_mod b 6
  have e3 : bits .and .i64 (b : Int) 63 = IntKind.i64.wrap (((BitVec.ofNat 64 b &&& 63#64).toNat : Nat) : Int) := by
    unfold bits; simp only [IntKind.bits, e1]; rfl
  rw [e3, e2, IntKind.wrap_i64]
  omega
theorem one_shl (k : Nat) (h : k < 64) : IntKind.u64.wrap ((2 : Int) ^ k) = n64 (BitVec.ofNat 64 (2 ^ k)) := by
  have this : 2 ^ k < 2 ^ 64 := Nat.pow_lt_pow_right (by decide) h
  unfold n64
  rw [BitVec.toNat_ofNat, Nat.mod_eq_of_lt this, IntKind.wrap_u64]
  have e : (2 : Int) ^ k = ((2 ^ k : Nat) : Int) := by simp
  rw [e]
  generalize 2 ^ k = m at *
  omega
/-- a class of bytes -/
structure C4 where
  a : BitVec 64
  b : BitVec 64
  c : BitVec 64
  d : BitVec 64
  deriving DecidableEq
def C4.get (x : C4) (i : Nat) : BitVec 64 := if i = 0 then x.a else if i = 1 then x.b else if i = 2 then x.c else x.d
def C4.set (x : C4) (i : Nat) (v : BitVec 64) : C4 := if i = 0 then { x with a := v } else if i = 1 then { x with b := v } else if i = 2 then { x with c := v } else { x with d := v }
def C4.zero : C4 := ⟨0, 0, 0, 0⟩
def C4.join (x y : C4) : C4 := ⟨x.a ||| y.a, x.b ||| y.b, x.c ||| y.c, x.d ||| y.d⟩
def C4.meet (x y : C4) : C4 := ⟨x.a &&& y.a, x.b &&& y.b, x.c &&& y.c, x.d &&& y.d⟩
def C4.not (x : C4) : C4 := ⟨~~~x.a, ~~~x.b, ~~~x.c, ~~~x.d⟩
def clsL (x : C4) : List Value := [.int .u64 (n64 x.a), .int .u64 (n64 x.b), .int .u64 (n64 x.c), .int .u64 (n64 x.d)]
def clsV (x : C4) : Value := .agg #[.int .u64 (n64 x.a), .int .u64 (n64 x.b), .int .u64 (n64 x.c), .int .u64 (n64 x.d)]
theorem clsL_get (x : C4) (i : Nat) (h : i < 4) : (clsL x)[i]? = some (v64 (x.get i)) := by
  match i, h with
  | 0, _ => rfl
  | 1, _ => rfl
  | 2, _ => rfl
  | 3, _ => rfl
theorem clsL_set (x : C4) (i : Nat) (h : i < 4) (v : BitVec 64) : (clsL x).set i (v64 v) = clsL (x.set i v) := by
  match i, h with
  | 0, _ => rfl
  | 1, _ => rfl
  | 2, _ => rfl
  | 3, _ => rfl
/-- of z up to i, of x from there on -/
def C4.upto (x z : C4) (i : Nat) : C4 := ⟨if 0 < i then z.a else x.a, if 1 < i then z.b else x.b, if 2 < i then z.c else x.c, if 3 < i then z.d else x.d⟩
theorem upto_get (x z : C4) (i : Nat) (h : i < 4) : (x.upto z i).get i = x.get i := by
  match i, h with
  | 0, _ => rfl
  | 1, _ => rfl
  | 2, _ => rfl
  | 3, _ => rfl
theorem upto_set (x z : C4) (i : Nat) (h : i < 4) : (x.upto z i).set i (z.get i) = x.upto z (i + 1) := by
  match i, h with
  | 0, _ => rfl
  | 1, _ => rfl
  | 2, _ => rfl
  | 3, _ => rfl
theorem upto_all (x z : C4) : x.upto z 4 = z := rfl
theorem join_get (x y : C4) (i : Nat) : (x.join y).get i = x.get i ||| y.get i := by
  unfold C4.get C4.join; split; rfl; split; rfl; split <;> rfl
theorem meet_get (x y : C4) (i : Nat) : (x.meet y).get i = x.get i &&& y.get i := by
  unfold C4.get C4.meet; split; rfl; split; rfl; split <;> rfl
theorem not_get (x : C4) (i : Nat) : x.not.get i = ~~~ x.get i := by
  unfold C4.get C4.not; split; rfl; split; rfl; split <;> rfl
/-- one bit more -/
def C4.bit (x : C4) (n : Nat) : C4 := x.set (n / 64) (x.get (n / 64) ||| BitVec.ofNat 64 (2 ^ (n % 64)))
/-- bits from b on, n of them -/
def C4.bitsFrom (x : C4) (b : Nat) : Nat → C4
  | 0 => x
  | n + 1 => (C4.bitsFrom x b n).bit (b + n)
theorem bit_step (x : C4) (b n : Nat) : (C4.bitsFrom x b n).set ((b + n) / 64) ((C4.bitsFrom x b n).get ((b + n) / 64) ||| BitVec.ofNat 64 (2 ^ ((b + n) % 64))) = C4.bitsFrom x b (n + 1) := rfl
/-- class.Range -/
def rangeF (lo hi : Int) : C4 := C4.bitsFrom C4.zero (max lo 0).toNat (min hi 255 + 1 - max lo 0).toNat
theorem range_35 : rangeF 3 5 = ⟨56, 0, 0, 0⟩ := by decide +kernel
theorem range_all : rangeF 0 255 = ⟨BitVec.allOnes 64, BitVec.allOnes 64, BitVec.allOnes 64, BitVec.allOnes 64⟩ := by decide +kernel
theorem C4.ext' {x y : C4} (h1 : x.a = y.a) (h2 : x.b = y.b) (h3 : x.c = y.c) (h4 : x.d = y.d) : x = y := by
  cases x; cases y; simp_all
theorem bv (x y : BitVec 64) (h : ∀ i (hi : i < 64), x[i] = y[i]) : x = y := by
  ext i hi; exact h i hi
theorem law1 (c d : C4) : (c.join d).not = c.not.meet d.not := by
  apply C4.ext' <;> simp only [C4.not, C4.join, C4.meet] <;> (apply bv; intro i hi; simp [BitVec.getElem_not, BitVec.getElem_or, BitVec.getElem_and])
theorem law2 (c : C4) : c.not.not = c := by
  apply C4.ext' <;> simp [C4.not]
theorem law3 (c d e : C4) : c.meet (d.join e) = (c.meet d).join (c.meet e) := by
  apply C4.ext' <;> simp only [C4.join, C4.meet] <;> (apply bv; intro i hi; simp only [BitVec.getElem_or, BitVec.getElem_and]; exact Bool.and_or_distrib_left ..)
theorem law4 (c d e : C4) : c.join (d.meet e) = (c.join d).meet (c.join e) := by
  apply C4.ext' <;> simp only [C4.join, C4.meet] <;> (apply bv; intro i hi; simp only [BitVec.getElem_or, BitVec.getElem_and]; exact Bool.or_and_distrib_left ..)
theorem b5 (p q : Bool) : (p || (p && q)) = p := by cases p <;> cases q <;> rfl
theorem law5 (c d : C4) : c.join (c.meet d) = c := by
  apply C4.ext' <;> simp only [C4.join, C4.meet] <;> (apply bv; intro i hi; simp only [BitVec.getElem_or, BitVec.getElem_and]; exact b5 ..)
theorem law6 (c : C4) : c.join c.not = rangeF 0 255 := by
  rw [range_all]
  apply C4.ext' <;> simp only [C4.join, C4.not] <;> (apply bv; intro i hi; simp)
theorem law7 (c : C4) : c.meet c.not = C4.zero := by
  apply C4.ext' <;> simp only [C4.meet, C4.not, C4.zero] <;> (apply bv; intro i hi; simp)
end Go.Proofs.YtbiacehgfmgfdaaDoor.classL
