/- Members of classes: no program in sight. -/
import Derived.Test.YtbiacehgfmgfdaaDoorClassQ
namespace Go.Proofs.YtbiacehgfmgfdaaDoor.classL
/-- the places of the bits of a word -/
def bitsOf (x : Nat) : List Nat := (List.range 64).filter fun i => x.testBit i
theorem ones_filter : ∀ (k x : Nat), ((List.range k).filter fun i => x.testBit i).length = ones k x
  | 0, _ => rfl
  | k + 1, x => by
    have ih := ones_filter k (x / 2)
    rw [List.range_succ_eq_map, List.filter_cons, List.filter_map]
    have e : ((fun i => x.testBit i) ∘ Nat.succ) = fun i => (x / 2).testBit i := by
      funext i
      simp [Nat.testBit_succ]
    rw [e]
    simp only [ones, ← ih]
    rcases Nat.mod_two_eq_zero_or_one x with a | a
    · simp [Nat.testBit_zero, a]
    · simp [Nat.testBit_zero, a]; omega
theorem bits_len (x : Nat) : (bitsOf x).length = ones 64 x := ones_filter 64 x
theorem bits_zero : bitsOf 0 = [] := by simp [bitsOf]
theorem range_cut (k : Nat) (h : k < 64) : List.range 64 = List.range k ++ k :: (List.range (63 - k)).map (k + 1 + ·) := by
  have e : 64 = k + 1 + (63 - k) := by omega
  conv => lhs; rw [e]
  rw [List.range_add, List.range_succ]
  simp
theorem bits_step (x : Nat) (h0 : x ≠ 0) (h : x < 18446744073709551616) : Lib.ctz 64 x < 64 ∧ bitsOf x = Lib.ctz 64 x :: bitsOf (x &&& (x - 1)) ∧ x &&& (x - 1) < x := by
  obtain ⟨m, h1, h2⟩ := Lib.ctzFrom_spec 64 x (by omega) (by simpa using h)
  have hc : Lib.ctz 64 x = Lib.ctzFrom 64 x := by simp [Lib.ctz, h0]
  rw [hc]
  generalize Lib.ctzFrom 64 x = k at *
  have hp : 0 < 2 ^ k := Nat.two_pow_pos k
  have e1 : x = 2 ^ k * (2 * m + 1) + 0 := by omega
  have e2 : x - 1 = 2 ^ k * (2 * m) + (2 ^ k - 1) := by
    rw [h1, Nat.mul_add, Nat.mul_one]; omega
  have t1 : ∀ i, x.testBit i = if i < k then false else (2 * m + 1).testBit (i - k) := fun i => by
    conv => lhs; rw [e1]
    rw [Nat.testBit_two_pow_mul_add _ hp]
    simp
  have t2 : ∀ i, (x &&& (x - 1)).testBit i = if i ≤ k then false else x.testBit i := fun i => by
    rw [Nat.testBit_and, e2, Nat.testBit_two_pow_mul_add _ (by omega), t1]
    by_cases c1 : i < k
    · simp [c1]
    · rw [if_neg c1, if_neg c1]
      by_cases c2 : i = k
      · subst c2; simp
      · rw [if_neg (show ¬ i ≤ k by omega)]
        obtain ⟨q, hq⟩ : ∃ q, i - k = q + 1 := ⟨i - k - 1, by omega⟩
        rw [hq]
        simp only [Nat.testBit_succ]
        rw [show (2 * m + 1) / 2 = m by omega, show 2 * m / 2 = m by omega]
        simp
  refine ⟨h2, ?_, ?_⟩
  · unfold bitsOf
    rw [range_cut k h2, List.filter_append, List.filter_append, List.filter_cons, List.filter_cons]
    have f1 : (List.range k).filter (fun i => x.testBit i) = [] := List.filter_eq_nil_iff.2 fun i hi => by
      rw [t1, if_pos (List.mem_range.1 hi)]; decide
    have f2 : (List.range k).filter (fun i => (x &&& (x - 1)).testBit i) = [] := List.filter_eq_nil_iff.2 fun i hi => by
      have := List.mem_range.1 hi
      rw [t2, if_pos (by omega)]; decide
    have f3 : x.testBit k = true := by rw [t1, if_neg (by omega), Nat.sub_self, Nat.testBit_zero]; simp
    have f4 : (x &&& (x - 1)).testBit k = false := by rw [t2, if_pos (Nat.le_refl _)]
    rw [f1, f2, if_pos f3, if_neg (by rw [f4]; decide)]
    simp only [List.nil_append]
    congr 1
    apply List.filter_congr
    intro i hi
    obtain ⟨j, _, rfl⟩ := List.mem_map.1 hi
    rw [t2, if_neg (by omega)]
  · have hle : x &&& (x - 1) ≤ x - 1 := Nat.and_le_right
    omega
/-- what a class has -/
def C4.mem (x : C4) (n : Nat) : Bool := (x.get (n / 64)).toNat.testBit (n % 64)
def bytesL (x : C4) : List Nat := (List.range 256).filter x.mem
def cnt (x : C4) : Nat := (bytesL x).length
theorem mem_at (x : C4) (i j : Nat) (h : j < 64) : x.mem (64 * i + j) = (x.get i).toNat.testBit j := by
  unfold C4.mem
  rw [show (64 * i + j) / 64 = i by omega, show (64 * i + j) % 64 = j by omega]
theorem part_filter (x : C4) (i : Nat) : ((List.range 64).map (64 * i + ·)).filter x.mem = (bitsOf (x.get i).toNat).map (64 * i + ·) := by
  rw [List.filter_map]
  congr 1
  apply List.filter_congr
  intro j hj
  exact mem_at x i j (List.mem_range.1 hj)
theorem range256 : List.range 256 = (List.range 64).map (64 * 0 + ·) ++ ((List.range 64).map (64 * 1 + ·) ++ ((List.range 64).map (64 * 2 + ·) ++ (List.range 64).map (64 * 3 + ·))) := by decide +kernel
/-- the bytes in words before i -/
def bytesTo (x : C4) : Nat → List Nat
  | 0 => []
  | i + 1 => bytesTo x i ++ (bitsOf (x.get i).toNat).map (64 * i + ·)
theorem bytes_to (x : C4) : bytesTo x 4 = bytesL x := by
  unfold bytesL
  rw [range256, List.filter_append, List.filter_append, List.filter_append, part_filter, part_filter, part_filter, part_filter]
  simp [bytesTo, List.append_assoc]
theorem cnt_eq (x : C4) : cnt x = ones 64 x.a.toNat + ones 64 x.b.toNat + ones 64 x.c.toNat + ones 64 x.d.toNat := by
  unfold cnt
  rw [← bytes_to]
  simp only [bytesTo, List.nil_append, List.length_append, List.length_map, bits_len]
  rfl
theorem cnt_or_and (x y : C4) : cnt (x.join y) + cnt (x.meet y) = cnt x + cnt y := by
  rw [cnt_eq, cnt_eq, cnt_eq, cnt_eq]
  have h1 := ones_or_and 64 x.a.toNat y.a.toNat
  have h2 := ones_or_and 64 x.b.toNat y.b.toNat
  have h3 := ones_or_and 64 x.c.toNat y.c.toNat
  have h4 := ones_or_and 64 x.d.toNat y.d.toNat
  simp only [C4.join, C4.meet, BitVec.toNat_or, BitVec.toNat_and]
  omega
theorem cnt_le (x : C4) : cnt x ≤ 256 := by
  have := List.length_filter_le x.mem (List.range 256)
  simpa [cnt, bytesL] using this
theorem cnt_not (x : C4) : cnt x.not = 256 - cnt x := by
  rw [cnt_eq, cnt_eq]
  have h : ∀ b : BitVec 64, ones 64 (~~~b).toNat = 64 - ones 64 b.toNat := fun b => by
    rw [BitVec.toNat_not]
    exact ones_not 64 b.toNat b.isLt
  have l1 := ones_le 64 x.a.toNat
  have l2 := ones_le 64 x.b.toNat
  have l3 := ones_le 64 x.c.toNat
  have l4 := ones_le 64 x.d.toNat
  simp only [C4.not, h]
  omega
theorem get_mem (x : C4) (n : Nat) : x.mem n = (x.get (n / 64)).getLsbD (n % 64) := by
  unfold C4.mem; rw [BitVec.getLsbD]
theorem join_mem (x y : C4) (n : Nat) : (x.join y).mem n = (x.mem n || y.mem n) := by
  rw [get_mem, get_mem, get_mem, join_get, BitVec.getLsbD_or]
theorem meet_mem (x y : C4) (n : Nat) : (x.meet y).mem n = (x.mem n && y.mem n) := by
  rw [get_mem, get_mem, get_mem, meet_get, BitVec.getLsbD_and]
theorem not_mem (x : C4) (n : Nat) : x.not.mem n = !x.mem n := by
  rw [get_mem, get_mem, not_get, BitVec.getLsbD_not]
  have : n % 64 < 64 := Nat.mod_lt _ (by decide)
  simp [this]
theorem zero_mem (n : Nat) : C4.zero.mem n = false := by
  rw [get_mem]
  have : C4.zero.get (n / 64) = 0 := by unfold C4.get C4.zero; split; rfl; split; rfl; split <;> rfl
  rw [this]; simp
theorem ext_mem {x y : C4} (h : ∀ n, n < 256 → x.mem n = y.mem n) : x = y := by
  have w : ∀ i, i < 4 → x.get i = y.get i := fun i hi => by
    apply BitVec.eq_of_getLsbD_eq
    intro j hj
    have := h (64 * i + j) (by omega)
    rw [get_mem, get_mem, show (64 * i + j) / 64 = i by omega, show (64 * i + j) % 64 = j by omega] at this
    exact this
  exact C4.ext' (w 0 (by decide)) (w 1 (by decide)) (w 2 (by decide)) (w 3 (by decide))
theorem get_set (x : C4) (i k : Nat) (v : BitVec 64) (hi : i < 4) (hk : k < 4) : (x.set i v).get k = if k = i then v else x.get k := by
  match i, hi, k, hk with
  | 0, _, 0, _ => rfl
  | 0, _, 1, _ => rfl
  | 0, _, 2, _ => rfl
  | 0, _, 3, _ => rfl
  | 1, _, 0, _ => rfl
  | 1, _, 1, _ => rfl
  | 1, _, 2, _ => rfl
  | 1, _, 3, _ => rfl
  | 2, _, 0, _ => rfl
  | 2, _, 1, _ => rfl
  | 2, _, 2, _ => rfl
  | 2, _, 3, _ => rfl
  | 3, _, 0, _ => rfl
  | 3, _, 1, _ => rfl
  | 3, _, 2, _ => rfl
  | 3, _, 3, _ => rfl
theorem bit_mem (x : C4) (m n : Nat) (hm : m < 256) (hn : n < 256) : (x.bit m).mem n = (x.mem n || decide (n = m)) := by
  rw [get_mem, get_mem]
  unfold C4.bit
  rw [get_set _ _ _ _ (by omega) (by omega)]
  have h64 : m % 64 < 64 := Nat.mod_lt _ (by decide)
  have h64' : n % 64 < 64 := Nat.mod_lt _ (by decide)
  have hp : (BitVec.ofNat 64 (2 ^ (m % 64))).getLsbD (n % 64) = decide (n % 64 = m % 64) := by
    rw [BitVec.getLsbD_ofNat, Nat.testBit_two_pow]
    simp [h64', eq_comm]
  by_cases c : n / 64 = m / 64
  · rw [if_pos c, BitVec.getLsbD_or, hp, c]
    congr 1
    by_cases d : n % 64 = m % 64
    · rw [decide_eq_true d, decide_eq_true (by omega)]
    · rw [decide_eq_false d, decide_eq_false (by omega)]
  · rw [if_neg c, decide_eq_false (by intro e; exact c (by rw [e]))]
    simp
theorem from_mem (x : C4) (b n : Nat) (hn : n < 256) : ∀ k, b + k ≤ 256 → (C4.bitsFrom x b k).mem n = (x.mem n || decide (b ≤ n ∧ n < b + k))
  | 0, _ => by simp [C4.bitsFrom]; omega
  | k + 1, h => by
    simp only [C4.bitsFrom]
    rw [bit_mem _ _ _ (by omega) hn, from_mem x b n hn k (by omega), Bool.or_assoc]
    congr 1
    by_cases c : b ≤ n ∧ n < b + k
    · rw [decide_eq_true c, decide_eq_true (show b ≤ n ∧ n < b + (k + 1) by omega)]; rfl
    · rw [decide_eq_false c]
      by_cases d : n = b + k
      · rw [decide_eq_true d, decide_eq_true (show b ≤ n ∧ n < b + (k + 1) by omega)]; rfl
      · rw [decide_eq_false d, decide_eq_false (show ¬ (b ≤ n ∧ n < b + (k + 1)) by omega)]; rfl
theorem range_mem (lo hi : Int) (n : Nat) (hn : n < 256) : (rangeF lo hi).mem n = decide (lo ≤ n ∧ (n : Int) ≤ hi) := by
  unfold rangeF
  by_cases h : (min hi 255 + 1 - max lo 0).toNat = 0
  · rw [h]
    simp only [C4.bitsFrom]
    rw [zero_mem, decide_eq_false (by omega)]
  · rw [from_mem _ _ _ hn _ (by omega), zero_mem, Bool.false_or]
    congr 1
    apply propext
    omega
theorem mem_bytes {x : C4} {n : Nat} : n ∈ bytesL x ↔ n < 256 ∧ x.mem n = true := by
  unfold bytesL; rw [List.mem_filter, List.mem_range]
/-- what Join makes of bytes, one behind the other -/
theorem again_mem : ∀ (l : List Nat) (z : C4), (∀ b ∈ l, b < 256) → ∀ n, n < 256 → (l.foldl (fun z b => z.join (rangeF b b)) z).mem n = (z.mem n || decide (n ∈ l))
  | [], z, _, n, _ => by simp
  | b :: l, z, h, n, hn => by
    rw [List.foldl_cons, again_mem l _ (fun x hx => h x (by simp [hx])) n hn, join_mem, range_mem _ _ _ hn, Bool.or_assoc]
    congr 1
    by_cases c : n = b
    · subst c; simp
    · rw [decide_eq_false (by omega)]
      simp [c]
theorem again_eq (x : C4) : (bytesL x).foldl (fun z b => z.join (rangeF b b)) C4.zero = x := by
  apply ext_mem
  intro n hn
  rw [again_mem _ _ (fun b hb => (mem_bytes.1 hb).1) n hn, zero_mem, Bool.false_or]
  by_cases c : x.mem n = true
  · rw [c, decide_eq_true (mem_bytes.2 ⟨hn, c⟩)]
  · rw [decide_eq_false (fun e => c (mem_bytes.1 e).2)]
    simp at c; exact c.symm
theorem bytes_sorted (x : C4) : (bytesL x).Pairwise (· < ·) := List.Pairwise.filter _ List.pairwise_lt_range
/-- the least one -/
def leastF (x : C4) : Int := match bytesL x with | [] => -1 | b :: _ => b
end Go.Proofs.YtbiacehgfmgfdaaDoor.classL
