/- Bits of words and of classes: no program in sight. -/
import Derived.Test.YtbiacehgfmgfdaaDoorClassL
import Derived.Lib.TrailingZeros
namespace Go.Proofs.YtbiacehgfmgfdaaDoor.classL
/-- how many of the lowest k bits are set -/
def ones : Nat → Nat → Nat
  | 0, _ => 0
  | k + 1, x => x % 2 + ones k (x / 2)
theorem ones_le : ∀ (k x : Nat), ones k x ≤ k
  | 0, _ => Nat.le_refl _
  | k + 1, x => by have := ones_le k (x / 2); simp only [ones]; omega
theorem ones_or_and : ∀ (k x y : Nat), ones k (x ||| y) + ones k (x &&& y) = ones k x + ones k y
  | 0, _, _ => rfl
  | k + 1, x, y => by
    have ih := ones_or_and k (x / 2) (y / 2)
    have e1 : (x ||| y) / 2 = x / 2 ||| y / 2 := by have := Nat.or_div_two_pow (a := x) (b := y) (n := 1); simpa using this
    have e2 : (x &&& y) / 2 = x / 2 &&& y / 2 := by have := Nat.and_div_two_pow (a := x) (b := y) (n := 1); simpa using this
    have e3 : (x ||| y) % 2 + (x &&& y) % 2 = x % 2 + y % 2 := by
      have h1 := Nat.or_mod_two_pow (a := x) (b := y) (n := 1)
      have h2 := Nat.and_mod_two_pow (a := x) (b := y) (n := 1)
      simp only [Nat.pow_one] at h1 h2
      rw [h1, h2]
      rcases Nat.mod_two_eq_zero_or_one x with a | a <;> rcases Nat.mod_two_eq_zero_or_one y with b | b <;> simp [a, b]
    simp only [ones, e1, e2]
    omega
theorem ones_not : ∀ (k x : Nat), x < 2 ^ k → ones k (2 ^ k - 1 - x) = k - ones k x
  | 0, x, h => by simp [ones]
  | k + 1, x, h => by
    have hp : 2 ^ (k + 1) = 2 * 2 ^ k := by rw [Nat.pow_succ]; omega
    rw [hp] at h ⊢
    have ih := ones_not k (x / 2) (by omega)
    have hl := ones_le k (x / 2)
    have e1 : (2 * 2 ^ k - 1 - x) / 2 = 2 ^ k - 1 - x / 2 := by omega
    have e2 : (2 * 2 ^ k - 1 - x) % 2 = 1 - x % 2 := by omega
    simp only [ones, e1, e2, ih]
    omega
/-! words as bytes -/
def enc : List Nat → Nat
  | [] => 0
  | b :: l => b + 256 * enc l
def digits : Nat → Nat → List Nat
  | 0, _ => []
  | k + 1, x => x % 256 :: digits k (x / 256)
theorem enc_digits : ∀ (k x : Nat), x < 256 ^ k → enc (digits k x) = x
  | 0, x, h => by simp at h; simp [digits, enc, h]
  | k + 1, x, h => by
    have hp : 256 ^ (k + 1) = 256 * 256 ^ k := by rw [Nat.pow_succ]; omega
    rw [hp] at h
    simp only [digits, enc, enc_digits k (x / 256) (by omega)]
    omega
theorem digits_lt : ∀ (k x b : Nat), b ∈ digits k x → b < 256
  | 0, _, _, h => by simp [digits] at h
  | k + 1, x, b, h => by
    rcases List.mem_cons.1 h with rfl | h
    · omega
    · exact digits_lt k _ b h
theorem digits_len : ∀ (k x : Nat), (digits k x).length = k
  | 0, _ => rfl
  | k + 1, x => by simp [digits, digits_len k]
theorem and_split (a b c d : Nat) (hb : b < 256) (hd : d < 256) : (b + 256 * a) &&& (d + 256 * c) = (b &&& d) + 256 * (a &&& c) := by
  have h1 : ∀ x y : Nat, x + 256 * y = 2 ^ 8 * y + x := fun x y => by omega
  have hbd : b &&& d < 2 ^ 8 := Nat.and_lt_two_pow _ (by omega)
  rw [h1, h1, h1]
  apply Nat.eq_of_testBit_eq
  intro i
  rw [Nat.testBit_and, Nat.testBit_two_pow_mul_add _ (by omega), Nat.testBit_two_pow_mul_add _ (by omega), Nat.testBit_two_pow_mul_add _ hbd]
  split
  · rw [Nat.testBit_and]
  · rw [Nat.testBit_and]
def a8 (b : Nat) : Nat := ((b / 2) &&& 85) + (b &&& 85)
def b8 (b : Nat) : Nat := ((b / 4) &&& 51) + (b &&& 51)
def c8 (b : Nat) : Nat := (b / 16 + b) &&& 15
def mask (d : Nat) : Nat → Nat
  | 0 => 0
  | k + 1 => d + 256 * mask d k
theorem k1 : ∀ t < 2, ∀ c < 128, (c + 128 * t) &&& 85 = c &&& 85 := by decide +kernel
theorem k2 : ∀ t < 4, ∀ c < 64, (c + 64 * t) &&& 51 = c &&& 51 := by decide +kernel
theorem k3 : ∀ t < 5, ∀ p < 5, ∀ q < 5, (p + (q + 16 * p) + 16 * t) &&& 15 = c8 (q + 16 * p) := by decide +kernel
theorem a8_lt : ∀ b < 256, a8 b < 256 := by decide +kernel
theorem b8_nib : ∀ b < 256, b8 (a8 b) / 16 < 5 ∧ b8 (a8 b) % 16 < 5 := by decide +kernel
theorem c8_ones : ∀ b < 256, c8 (b8 (a8 b)) = ones 8 b := by decide +kernel
theorem stepA : ∀ l : List Nat, (∀ b ∈ l, b < 256) → ((enc l / 2) &&& mask 85 l.length) + (enc l &&& mask 85 l.length) = enc (l.map a8)
  | [], _ => rfl
  | b :: l, h => by
    have ih := stepA l fun x hx => h x (by simp [hx])
    have hb := h b (by simp)
    have e1 : enc (b :: l) / 2 = (b / 2 + 128 * (enc l % 2)) + 256 * (enc l / 2) := by simp only [enc]; omega
    simp only [List.length_cons, mask, List.map_cons]
    rw [e1, and_split _ _ _ _ (by omega) (by decide), k1 _ (by omega) _ (by omega)]
    simp only [enc]
    rw [and_split _ _ _ _ hb (by decide), ← ih]
    simp only [a8]
    omega
theorem stepB : ∀ l : List Nat, (∀ b ∈ l, b < 256) → ((enc l / 4) &&& mask 51 l.length) + (enc l &&& mask 51 l.length) = enc (l.map b8)
  | [], _ => rfl
  | b :: l, h => by
    have ih := stepB l fun x hx => h x (by simp [hx])
    have hb := h b (by simp)
    have e1 : enc (b :: l) / 4 = (b / 4 + 64 * (enc l % 4)) + 256 * (enc l / 4) := by simp only [enc]; omega
    simp only [List.length_cons, mask, List.map_cons]
    rw [e1, and_split _ _ _ _ (by omega) (by decide), k2 _ (by omega) _ (by omega)]
    simp only [enc]
    rw [and_split _ _ _ _ hb (by decide), ← ih]
    simp only [b8]
    omega
theorem enc_mod16 : ∀ l : List Nat, (∀ b ∈ l, b / 16 < 5 ∧ b % 16 < 5) → enc l % 16 < 5
  | [], _ => by decide
  | b :: l, h => by have := h b (by simp); simp only [enc]; omega
theorem stepC : ∀ l : List Nat, (∀ b ∈ l, b / 16 < 5 ∧ b % 16 < 5) → (enc l / 16 + enc l) &&& mask 15 l.length = enc (l.map c8)
  | [], _ => rfl
  | b :: l, h => by
    have ih := stepC l fun x hx => h x (by simp [hx])
    obtain ⟨h1, h2⟩ := h b (by simp)
    have h3 := enc_mod16 l fun x hx => h x (by simp [hx])
    have e1 : enc (b :: l) / 16 + enc (b :: l) = (b / 16 + (b % 16 + 16 * (b / 16)) + 16 * (enc l % 16)) + 256 * (enc l / 16 + enc l) := by simp only [enc]; omega
    have e2 : b % 16 + 16 * (b / 16) = b := by omega
    simp only [List.length_cons, mask, List.map_cons]
    rw [e1, and_split _ _ _ _ (by omega) (by decide), k3 _ h3 _ h1 _ h2, ih, e2]
    rfl
theorem ones_split (k b y : Nat) (hb : b < 256) : ones (8 + k) (b + 256 * y) = ones 8 b + ones k y := by
  have e : 8 + k = k + 1 + 1 + 1 + 1 + 1 + 1 + 1 + 1 := by omega
  rw [e]
  simp only [ones, Nat.div_div_eq_div_mul]
  have e2 : (b + 256 * y) / (2 * 2 * 2 * 2 * 2 * 2 * 2 * 2) = y := by omega
  rw [e2]
  omega
theorem ones_enc : ∀ l : List Nat, (∀ b ∈ l, b < 256) → ones (8 * l.length) (enc l) = (l.map (ones 8)).sum
  | [], _ => rfl
  | b :: l, h => by
    have ih := ones_enc l fun x hx => h x (by simp [hx])
    simp only [List.length_cons, List.map_cons, List.sum_cons, enc]
    rw [show 8 * (l.length + 1) = 8 + 8 * l.length by omega, ones_split _ _ _ (h b (by simp)), ih]
/-- what math/bits.OnesCount64 does -/
def s1 (x : Nat) : Nat := ((x / 2) &&& 6148914691236517205) + (x &&& 6148914691236517205)
def s2 (x : Nat) : Nat := ((x / 4) &&& 3689348814741910323) + (x &&& 3689348814741910323)
def s3 (x : Nat) : Nat := (x / 16 + x) &&& 1085102592571150095
def s4 (x : Nat) : Nat := x + x / 256
def s5 (x : Nat) : Nat := x + x / 65536
def s6 (x : Nat) : Nat := x + x / 4294967296
theorem enc_lt : ∀ l : List Nat, (∀ b ∈ l, b < 256) → enc l < 256 ^ l.length
  | [], _ => by decide
  | b :: l, h => by
    have ih := enc_lt l fun x hx => h x (by simp [hx])
    have := h b (by simp)
    simp only [enc, List.length_cons, Nat.pow_succ]
    omega
theorem enc_lt3 : ∀ l : List Nat, (∀ b ∈ l, b < 80) → 3 * enc l < 256 ^ l.length
  | [], _ => by decide
  | b :: l, h => by
    have ih := enc_lt3 l fun x hx => h x (by simp [hx])
    have := h b (by simp)
    simp only [enc, List.length_cons, Nat.pow_succ]
    omega
theorem swar_end (X o0 o1 o2 o3 o4 o5 o6 o7 : Nat) (hX : X = o0 + 256 * (o1 + 256 * (o2 + 256 * (o3 + 256 * (o4 + 256 * (o5 + 256 * (o6 + 256 * (o7 + 256 * 0))))))))
    (q0 : o0 ≤ 8) (q1 : o1 ≤ 8) (q2 : o2 ≤ 8) (q3 : o3 ≤ 8) (q4 : o4 ≤ 8) (q5 : o5 ≤ 8) (q6 : o6 ≤ 8) (q7 : o7 ≤ 8) :
    X < 2305843009213693952 ∧ s4 X < 4611686018427387904 ∧ s5 (s4 X) < 6917529027641081856 ∧ s6 (s5 (s4 X)) < 9223372036854775808 ∧ s6 (s5 (s4 X)) % 128 = o0 + (o1 + (o2 + (o3 + (o4 + (o5 + (o6 + (o7 + 0))))))) := by
  have t4 : s4 X = o0 + o1 + 256 * (o1 + o2) + 65536 * (o2 + o3) + 16777216 * (o3 + o4) + 4294967296 * (o4 + o5) + 1099511627776 * (o5 + o6) + 281474976710656 * (o6 + o7) + 72057594037927936 * o7 := by
    have e : X / 256 = o1 + 256 * (o2 + 256 * (o3 + 256 * (o4 + 256 * (o5 + 256 * (o6 + 256 * o7))))) := by omega
    simp only [s4, e]; omega
  have t5 : s5 (s4 X) = (o0 + o1 + o2 + o3) + 256 * (o1 + o2 + o3 + o4) + 65536 * (o2 + o3 + o4 + o5) + 16777216 * (o3 + o4 + o5 + o6) + 4294967296 * (o4 + o5 + o6 + o7) + 1099511627776 * (o5 + o6 + o7) + 281474976710656 * (o6 + o7) + 72057594037927936 * o7 := by
    have e : s4 X / 65536 = (o2 + o3) + 256 * (o3 + o4) + 65536 * (o4 + o5) + 16777216 * (o5 + o6) + 4294967296 * (o6 + o7) + 1099511627776 * o7 := by omega
    simp only [s5, e]; omega
  have t6 : s5 (s4 X) / 4294967296 = (o4 + o5 + o6 + o7) + 256 * (o5 + o6 + o7) + 65536 * (o6 + o7) + 16777216 * o7 := by omega
  have t7 : s6 (s5 (s4 X)) = s5 (s4 X) + ((o4 + o5 + o6 + o7) + 256 * (o5 + o6 + o7) + 65536 * (o6 + o7) + 16777216 * o7) := by simp only [s6, t6]
  have b4 : s4 X < 4611686018427387904 := by rw [t4]; clear t4 t5 t6 t7 hX; omega
  have b5 : s5 (s4 X) < 6917529027641081856 := by rw [t5]; clear t4 t5 t6 t7 hX b4; omega
  have b3 : X < 2305843009213693952 := by rw [hX]; clear t4 t5 t6 t7 hX b4 b5; omega
  have b6 : s6 (s5 (s4 X)) < 9223372036854775808 := by rw [t7]; clear t4 t6 t7 hX b4 b3 t5; omega
  refine ⟨b3, b4, b5, b6, ?_⟩
  rw [t7, t5]
  clear t4 t5 t6 t7 hX b3 b4 b5 b6
  have e : (o0 + o1 + o2 + o3) + 256 * (o1 + o2 + o3 + o4) + 65536 * (o2 + o3 + o4 + o5) + 16777216 * (o3 + o4 + o5 + o6) + 4294967296 * (o4 + o5 + o6 + o7) + 1099511627776 * (o5 + o6 + o7) + 281474976710656 * (o6 + o7) + 72057594037927936 * o7 + ((o4 + o5 + o6 + o7) + 256 * (o5 + o6 + o7) + 65536 * (o6 + o7) + 16777216 * o7)
      = (o0 + (o1 + (o2 + (o3 + (o4 + (o5 + (o6 + (o7 + 0)))))))) + 128 * (2 * (o1 + o2 + o3 + o4) + 512 * (o2 + o3 + o4 + o5) + 131072 * (o3 + o4 + o5 + o6) + 33554432 * (o4 + o5 + o6 + o7) + 8589934592 * (o5 + o6 + o7) + 2199023255552 * (o6 + o7) + 562949953421312 * o7 + (2 * (o5 + o6 + o7) + 512 * (o6 + o7) + 131072 * o7)) := by omega
  rw [e, Nat.add_mul_mod_self_left]
  exact Nat.mod_eq_of_lt (by omega)
theorem len8 {l : List Nat} (h : l.length = 8) : ∃ p0 p1 p2 p3 p4 p5 p6 p7, l = [p0, p1, p2, p3, p4, p5, p6, p7] := by
  match l, h with
  | [a, b, c, d, e, f, g, h], _ => exact ⟨_, _, _, _, _, _, _, _, rfl⟩
theorem swar (x : Nat) (h : x < 18446744073709551616) : s1 x < 18446744073709551616 ∧ s2 (s1 x) < 9223372036854775808 ∧ s2 (s1 x) / 16 + s2 (s1 x) < 18446744073709551616 ∧ s3 (s2 (s1 x)) < 2305843009213693952 ∧ s4 (s3 (s2 (s1 x))) < 4611686018427387904 ∧ s5 (s4 (s3 (s2 (s1 x)))) < 6917529027641081856 ∧ s6 (s5 (s4 (s3 (s2 (s1 x))))) < 9223372036854775808 ∧ s6 (s5 (s4 (s3 (s2 (s1 x))))) % 128 = ones 64 x := by
  have hx := enc_digits 8 x (by simpa using h)
  have hl := digits_len 8 x
  have hd := digits_lt 8 x
  generalize digits 8 x = l at *
  have eA := stepA l hd
  have hA : ∀ b ∈ l.map a8, b < 256 := fun b hb => by
    obtain ⟨c, hc, rfl⟩ := List.mem_map.1 hb
    exact a8_lt c (hd c hc)
  have eB := stepB (l.map a8) hA
  have hB : ∀ b ∈ (l.map a8).map b8, b / 16 < 5 ∧ b % 16 < 5 := fun b hb => by
    obtain ⟨c, hc, rfl⟩ := List.mem_map.1 hb
    obtain ⟨c', hc', rfl⟩ := List.mem_map.1 hc
    exact b8_nib c' (hd c' hc')
  have eC := stepC ((l.map a8).map b8) hB
  have m1 : mask 85 8 = 6148914691236517205 := rfl
  have m2 : mask 51 8 = 3689348814741910323 := rfl
  have m3 : mask 15 8 = 1085102592571150095 := rfl
  simp only [List.length_map, hl, m1, m2, m3] at eA eB eC
  have f1 : s1 x = enc (l.map a8) := by unfold s1; rw [← hx]; exact eA
  have f2 : s2 (s1 x) = enc ((l.map a8).map b8) := by rw [f1]; exact eB
  have f3 : s3 (s2 (s1 x)) = enc (((l.map a8).map b8).map c8) := by rw [f2]; exact eC
  have f4 : ((l.map a8).map b8).map c8 = l.map (ones 8) := by
    rw [List.map_map, List.map_map]
    exact List.map_congr_left fun b hb => c8_ones b (hd b hb)
  rw [f4] at f3
  have f5 := ones_enc l hd
  rw [hl, hx] at f5
  have g1 := enc_lt _ hA
  have g2 := enc_lt3 _ fun b hb => (by have := hB b hb; omega : b < 80)
  rw [← f1] at g1
  rw [← f2] at g2
  simp only [List.length_map, hl, Nat.reducePow] at g1 g2
  clear eA eB eC hA hB f1 f2 f4 m1 m2 m3 hx h hd
  have g3 : s2 (s1 x) < 9223372036854775808 ∧ s2 (s1 x) / 16 + s2 (s1 x) < 18446744073709551616 := by clear f3 f5; omega
  obtain ⟨p0, p1, p2, p3, p4, p5, p6, p7, rfl⟩ := len8 hl
  simp only [List.map_cons, List.map_nil, enc, List.sum_cons, List.sum_nil] at f3 f5
  clear g2 hl
  generalize s3 (s2 (s1 x)) = X at *
  have r := swar_end X _ _ _ _ _ _ _ _ f3 (ones_le 8 p0) (ones_le 8 p1) (ones_le 8 p2) (ones_le 8 p3) (ones_le 8 p4) (ones_le 8 p5) (ones_le 8 p6) (ones_le 8 p7)
  rw [← f5] at r
  exact ⟨g1, g3.1, g3.2, r.1, r.2.1, r.2.2.1, r.2.2.2.1, r.2.2.2.2⟩
end Go.Proofs.YtbiacehgfmgfdaaDoor.classL
