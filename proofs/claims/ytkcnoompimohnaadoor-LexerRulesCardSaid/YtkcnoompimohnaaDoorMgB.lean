/- Part 2 of what LexerRules needs: ClassR, Read, MixV, Seq, MixW, Room, ClsHas, RexL, ReadM, Shp, Map, ClassB, Class, ClsRg, ClassSetsE, ClassN, LawT, RexS, ClassO1, RexI, DfS, PlacesL, PlacesM, PlacesS. -/
import Derived.Test.YtkcnoompimohnaaDoorMgA
import Derived.WalkKit
import Derived.WalkSpells
import Derived.WalkLawsBesides
import Derived.Deep.RegionLaw
import Derived.Deep.AppendLies
import Derived.Deep.QuietTactic
import Derived.BigQuiet
import Derived.Deep.DeepCutAuto
import Derived.Lib.Hide
import Derived.Test.YtkcnoompimohnaaDoorRows
import Derived.ProofKit
import Derived.OpenShut
import Derived.ShutString
import Derived.SizedLaws
import Derived.JoinedCond
import Derived.Deep.CondSized
import Derived.Deep.Quiet
import Derived.StillTail
import Derived.Deep.LoopGhost
import Derived.Laws.BitsLemmas
import Derived.Laws.BytesString
import Derived.Test.YtkcnoompimohnaaDoorProg
import Derived.Laws.Entries
import Derived.Laws.BitsAllLaws
import Derived.Laws.StructEq
import Derived.ChangeKeysEq
import Derived.Lib.TrailingZeros
import Derived.Laws.MakeOwn
import Derived.Laws.AppendOwn
import Derived.Laws.Bits64b
import Derived.Maps.OwnSet
import Derived.DeepKeys4
import Derived.WideKeyEntry
import Derived.Handed
import Derived.Lay
import Derived.Lib.LaidTab
import Derived.MakeChecks
import Derived.Lib.SlicesCompact
/- ClassR -/
namespace Go.Proofs.YtkcnoompimohnaaDoor.classL
/-- the places of the bits of a word -/
def bitsOf (x : Nat) : List Nat := (List.range 64).filter fun i => x.testBit i
theorem ones_filter : ∀ (k x : Nat), ((List.range k).filter fun i => x.testBit i).length = ones k x
  | 0, _ => rfl
  | k + 1, x => by
    have ih := ones_filter k (x / 2)
    rw [List.range_succ_eq_map, List.filter_cons, List.filter_map]
    have e : ((fun i => x.testBit i) ∘ Nat.succ) = fun i => (x / 2).testBit i := by
      funext i
      simp [Nat.testBit_succ]
    rw [e]
    simp only [ones, ← ih]
    rcases Nat.mod_two_eq_zero_or_one x with a | a
    · simp [Nat.testBit_zero, a]
    · simp [Nat.testBit_zero, a]; omega
theorem bits_len (x : Nat) : (bitsOf x).length = ones 64 x := ones_filter 64 x
theorem bits_zero : bitsOf 0 = [] := by simp [bitsOf]
theorem range_cut (k : Nat) (h : k < 64) : List.range 64 = List.range k ++ k :: (List.range (63 - k)).map (k + 1 + ·) := by
  have e : 64 = k + 1 + (63 - k) := by omega
  conv => lhs; rw [e]
  rw [List.range_add, List.range_succ]
  simp
theorem bits_step (x : Nat) (h0 : x ≠ 0) (h : x < 18446744073709551616) : Lib.ctz 64 x < 64 ∧ bitsOf x = Lib.ctz 64 x :: bitsOf (x &&& (x - 1)) ∧ x &&& (x - 1) < x := by
  obtain ⟨m, h1, h2⟩ := Lib.ctzFrom_spec 64 x (by omega) (by simpa using h)
  have hc : Lib.ctz 64 x = Lib.ctzFrom 64 x := by simp [Lib.ctz, h0]
  rw [hc]
  generalize Lib.ctzFrom 64 x = k at *
  have hp : 0 < 2 ^ k := Nat.two_pow_pos k
  have e1 : x = 2 ^ k * (2 * m + 1) + 0 := by omega
  have e2 : x - 1 = 2 ^ k * (2 * m) + (2 ^ k - 1) := by
    rw [h1, Nat.mul_add, Nat.mul_one]; omega
  have t1 : ∀ i, x.testBit i = if i < k then false else (2 * m + 1).testBit (i - k) := fun i => by
    conv => lhs; rw [e1]
    rw [Nat.testBit_two_pow_mul_add _ hp]
    simp
  have t2 : ∀ i, (x &&& (x - 1)).testBit i = if i ≤ k then false else x.testBit i := fun i => by
    rw [Nat.testBit_and, e2, Nat.testBit_two_pow_mul_add _ (by omega), t1]
    by_cases c1 : i < k
    · simp [c1]
    · rw [if_neg c1, if_neg c1]
      by_cases c2 : i = k
      · subst c2; simp
      · rw [if_neg (show ¬ i ≤ k by omega)]
        obtain ⟨q, hq⟩ : ∃ q, i - k = q + 1 := ⟨i - k - 1, by omega⟩
        rw [hq]
        simp only [Nat.testBit_succ]
        rw [show (2 * m + 1) / 2 = m by omega, show 2 * m / 2 = m by omega]
        simp
  refine ⟨h2, ?_, ?_⟩
  · unfold bitsOf
    rw [range_cut k h2, List.filter_append, List.filter_append, List.filter_cons, List.filter_cons]
    have f1 : (List.range k).filter (fun i => x.testBit i) = [] := List.filter_eq_nil_iff.2 fun i hi => by
      rw [t1, if_pos (List.mem_range.1 hi)]; decide
    have f2 : (List.range k).filter (fun i => (x &&& (x - 1)).testBit i) = [] := List.filter_eq_nil_iff.2 fun i hi => by
      have := List.mem_range.1 hi
      rw [t2, if_pos (by omega)]; decide
    have f3 : x.testBit k = true := by rw [t1, if_neg (by omega), Nat.sub_self, Nat.testBit_zero]; simp
    have f4 : (x &&& (x - 1)).testBit k = false := by rw [t2, if_pos (Nat.le_refl _)]
    rw [f1, f2, if_pos f3, if_neg (by rw [f4]; decide)]
    simp only [List.nil_append]
    congr 1
    apply List.filter_congr
    intro i hi
    obtain ⟨j, _, rfl⟩ := List.mem_map.1 hi
    rw [t2, if_neg (by omega)]
  · have hle : x &&& (x - 1) ≤ x - 1 := Nat.and_le_right
    omega
/-- what a class has -/
def C4.mem (x : C4) (n : Nat) : Bool := (x.get (n / 64)).toNat.testBit (n % 64)
def bytesL (x : C4) : List Nat := (List.range 256).filter x.mem
def cnt (x : C4) : Nat := (bytesL x).length
theorem mem_at (x : C4) (i j : Nat) (h : j < 64) : x.mem (64 * i + j) = (x.get i).toNat.testBit j := by
  unfold C4.mem
  rw [show (64 * i + j) / 64 = i by omega, show (64 * i + j) % 64 = j by omega]
theorem part_filter (x : C4) (i : Nat) : ((List.range 64).map (64 * i + ·)).filter x.mem = (bitsOf (x.get i).toNat).map (64 * i + ·) := by
  rw [List.filter_map]
  congr 1
  apply List.filter_congr
  intro j hj
  exact mem_at x i j (List.mem_range.1 hj)
theorem range256 : List.range 256 = (List.range 64).map (64 * 0 + ·) ++ ((List.range 64).map (64 * 1 + ·) ++ ((List.range 64).map (64 * 2 + ·) ++ (List.range 64).map (64 * 3 + ·))) := by decide +kernel
/-- the bytes in words before i -/
def bytesTo (x : C4) : Nat → List Nat
  | 0 => []
  | i + 1 => bytesTo x i ++ (bitsOf (x.get i).toNat).map (64 * i + ·)
theorem bytes_to (x : C4) : bytesTo x 4 = bytesL x := by
  unfold bytesL
  rw [range256, List.filter_append, List.filter_append, List.filter_append, part_filter, part_filter, part_filter, part_filter]
  simp [bytesTo, List.append_assoc]
theorem cnt_eq (x : C4) : cnt x = ones 64 x.a.toNat + ones 64 x.b.toNat + ones 64 x.c.toNat + ones 64 x.d.toNat := by
  unfold cnt
  rw [← bytes_to]
  simp only [bytesTo, List.nil_append, List.length_append, List.length_map, bits_len]
  rfl
theorem cnt_or_and (x y : C4) : cnt (x.join y) + cnt (x.meet y) = cnt x + cnt y := by
  rw [cnt_eq, cnt_eq, cnt_eq, cnt_eq]
  have h1 := ones_or_and 64 x.a.toNat y.a.toNat
  have h2 := ones_or_and 64 x.b.toNat y.b.toNat
  have h3 := ones_or_and 64 x.c.toNat y.c.toNat
  have h4 := ones_or_and 64 x.d.toNat y.d.toNat
  simp only [C4.join, C4.meet, BitVec.toNat_or, BitVec.toNat_and]
  omega
theorem cnt_le (x : C4) : cnt x ≤ 256 := by
  have := List.length_filter_le x.mem (List.range 256)
  simpa [cnt, bytesL] using this
theorem get_mem (x : C4) (n : Nat) : x.mem n = (x.get (n / 64)).getLsbD (n % 64) := by
  unfold C4.mem; rw [BitVec.getLsbD]
theorem join_mem (x y : C4) (n : Nat) : (x.join y).mem n = (x.mem n || y.mem n) := by
  rw [get_mem, get_mem, get_mem, join_get, BitVec.getLsbD_or]
theorem meet_mem (x y : C4) (n : Nat) : (x.meet y).mem n = (x.mem n && y.mem n) := by
  rw [get_mem, get_mem, get_mem, meet_get, BitVec.getLsbD_and]
theorem not_mem (x : C4) (n : Nat) : x.not.mem n = !x.mem n := by
  rw [get_mem, get_mem, not_get, BitVec.getLsbD_not]
  have : n % 64 < 64 := Nat.mod_lt _ (by decide)
  simp [this]
theorem zero_mem (n : Nat) : C4.zero.mem n = false := by
  rw [get_mem]
  have : C4.zero.get (n / 64) = 0 := by unfold C4.get C4.zero; split; rfl; split; rfl; split <;> rfl
  rw [this]; simp
theorem ext_mem {x y : C4} (h : ∀ n, n < 256 → x.mem n = y.mem n) : x = y := by
  have w : ∀ i, i < 4 → x.get i = y.get i := fun i hi => by
    apply BitVec.eq_of_getLsbD_eq
    intro j hj
    have := h (64 * i + j) (by omega)
    rw [get_mem, get_mem, show (64 * i + j) / 64 = i by omega, show (64 * i + j) % 64 = j by omega] at this
    exact this
  exact C4.ext' (w 0 (by decide)) (w 1 (by decide)) (w 2 (by decide)) (w 3 (by decide))
theorem get_set (x : C4) (i k : Nat) (v : BitVec 64) (hi : i < 4) (hk : k < 4) : (x.set i v).get k = if k = i then v else x.get k := by
  match i, hi, k, hk with
  | 0, _, 0, _ => rfl
  | 0, _, 1, _ => rfl
  | 0, _, 2, _ => rfl
  | 0, _, 3, _ => rfl
  | 1, _, 0, _ => rfl
  | 1, _, 1, _ => rfl
  | 1, _, 2, _ => rfl
  | 1, _, 3, _ => rfl
  | 2, _, 0, _ => rfl
  | 2, _, 1, _ => rfl
  | 2, _, 2, _ => rfl
  | 2, _, 3, _ => rfl
  | 3, _, 0, _ => rfl
  | 3, _, 1, _ => rfl
  | 3, _, 2, _ => rfl
  | 3, _, 3, _ => rfl
theorem bit_mem (x : C4) (m n : Nat) (hm : m < 256) (hn : n < 256) : (x.bit m).mem n = (x.mem n || decide (n = m)) := by
  rw [get_mem, get_mem]
  unfold C4.bit
  rw [get_set _ _ _ _ (by omega) (by omega)]
  have h64 : m % 64 < 64 := Nat.mod_lt _ (by decide)
  have h64' : n % 64 < 64 := Nat.mod_lt _ (by decide)
  have hp : (BitVec.ofNat 64 (2 ^ (m % 64))).getLsbD (n % 64) = decide (n % 64 = m % 64) := by
    rw [BitVec.getLsbD_ofNat, Nat.testBit_two_pow]
    simp [h64', eq_comm]
  by_cases c : n / 64 = m / 64
  · rw [if_pos c, BitVec.getLsbD_or, hp, c]
    congr 1
    by_cases d : n % 64 = m % 64
    · rw [decide_eq_true d, decide_eq_true (by omega)]
    · rw [decide_eq_false d, decide_eq_false (by omega)]
  · rw [if_neg c, decide_eq_false (by intro e; exact c (by rw [e]))]
    simp
theorem from_mem (x : C4) (b n : Nat) (hn : n < 256) : ∀ k, b + k ≤ 256 → (C4.bitsFrom x b k).mem n = (x.mem n || decide (b ≤ n ∧ n < b + k))
  | 0, _ => by simp [C4.bitsFrom]; omega
  | k + 1, h => by
    simp only [C4.bitsFrom]
    rw [bit_mem _ _ _ (by omega) hn, from_mem x b n hn k (by omega), Bool.or_assoc]
    congr 1
    by_cases c : b ≤ n ∧ n < b + k
    · rw [decide_eq_true c, decide_eq_true (show b ≤ n ∧ n < b + (k + 1) by omega)]; rfl
    · rw [decide_eq_false c]
      by_cases d : n = b + k
      · rw [decide_eq_true d, decide_eq_true (show b ≤ n ∧ n < b + (k + 1) by omega)]; rfl
      · rw [decide_eq_false d, decide_eq_false (show ¬ (b ≤ n ∧ n < b + (k + 1)) by omega)]; rfl
theorem range_mem (lo hi : Int) (n : Nat) (hn : n < 256) : (rangeF lo hi).mem n = decide (lo ≤ n ∧ (n : Int) ≤ hi) := by
  unfold rangeF
  by_cases h : (min hi 255 + 1 - max lo 0).toNat = 0
  · rw [h]
    simp only [C4.bitsFrom]
    rw [zero_mem, decide_eq_false (by omega)]
  · rw [from_mem _ _ _ hn _ (by omega), zero_mem, Bool.false_or]
    congr 1
    apply propext
    omega
theorem mem_bytes {x : C4} {n : Nat} : n ∈ bytesL x ↔ n < 256 ∧ x.mem n = true := by
  unfold bytesL; rw [List.mem_filter, List.mem_range]
end Go.Proofs.YtkcnoompimohnaaDoor.classL

/- Read -/
namespace Go.Proofs.YtkcnoompimohnaaDoor.eng
open Go.RowKit kit mix Go.ChangeShapes Go.WideShapes Go.ChangeAt
section
variable {H : Type} {enc0 : TypeId × Value → H} {P : Program} {W : World}
/-- a slice of elements of c cells each, of which 'is' says how they read -/
def SlX {α : Type} (W : World) (is : List Value → α → Prop) (c : Nat) (v : Value) (l : List α) : Prop :=
  ∃ base cap, v = .slice base l.length cap ∧ l.length ≤ cap ∧ cap ≤ maxLen ∧ (0 < l.length → ∃ b off, base = some ⟨b, off, none⟩ ∧ ∀ i (h : i < l.length), ∃ cs, is cs l[i] ∧ Rd W b (off + i * c) cs)
/-- what can be opened reads so -/
def Opens (enc0 : TypeId × Value → H) (P : Program) (W : World) (t : TypeId) {α : Type} (is : List Value → α → Prop) : Prop :=
  ∀ fuel cs x, DataW.trod enc0 P W 0 (fun _ => true) true fuel t cs = some x → ∃ a, is cs a
theorem Opens.mono {t : TypeId} {α : Type} {is is' : List Value → α → Prop} (h : Opens enc0 P W t is) (hi : ∀ cs a, is cs a → is' cs a) : Opens enc0 P W t is' := fun f cs x hx => let ⟨a, ha⟩ := h f cs x hx; ⟨a, hi _ _ ha⟩
def isInt (k : IntKind) (lo hi : Int) (cs : List Value) (n : Int) : Prop := cs = [.int k n] ∧ lo ≤ n ∧ n ≤ hi
def isStr (cs : List Value) (s : List UInt8) : Prop := cs = [str s] ∧ s.length ≤ 9223372036854775807
def isBool (cs : List Value) (b : Bool) : Prop := cs = [.bool b]
theorem opens_int {t : TypeId} {k : IntKind} (ht : P.underlying t = some (.int k)) : Opens enc0 P W t (isInt k k.min k.max) := fun f cs x h => by
  obtain ⟨n, h1, _, h3⟩ := DataW.trod_int ht h
  simp only [Lit.wf, Bool.and_eq_true, decide_eq_true_eq] at h3
  exact ⟨n, h1, h3.1, h3.2⟩
theorem opens_i64 {t : TypeId} (ht : P.underlying t = some (.int .i64)) : Opens enc0 P W t (isInt .i64 (-9223372036854775808) 9223372036854775807) := (opens_int ht).mono fun cs n h => ⟨h.1, by simpa [IntKind.min, IntKind.signed, IntKind.bits] using h.2.1, by simpa [IntKind.max, IntKind.signed, IntKind.bits] using h.2.2⟩
theorem opens_i16 {t : TypeId} (ht : P.underlying t = some (.int .i16)) : Opens enc0 P W t (isInt .i16 (-32768) 32767) := (opens_int ht).mono fun cs n h => ⟨h.1, by simpa [IntKind.min, IntKind.signed, IntKind.bits] using h.2.1, by simpa [IntKind.max, IntKind.signed, IntKind.bits] using h.2.2⟩
theorem opens_u64 {t : TypeId} (ht : P.underlying t = some (.int .u64)) : Opens enc0 P W t (isInt .u64 0 18446744073709551615) := (opens_int ht).mono fun cs n h => ⟨h.1, by simpa [IntKind.min, IntKind.signed, IntKind.bits] using h.2.1, by simpa [IntKind.max, IntKind.signed, IntKind.bits] using h.2.2⟩
theorem opens_u8 {t : TypeId} (ht : P.underlying t = some (.int .u8)) : Opens enc0 P W t (isInt .u8 0 255) := (opens_int ht).mono fun cs n h => ⟨h.1, by simpa [IntKind.min, IntKind.signed, IntKind.bits] using h.2.1, by simpa [IntKind.max, IntKind.signed, IntKind.bits] using h.2.2⟩
theorem opens_str {t : TypeId} (ht : P.underlying t = some .string) : Opens enc0 P W t isStr := fun f cs x h => by
  obtain ⟨s, h1, _, h3⟩ := DataW.trod_string ht h
  refine ⟨s.data.toList, by rw [h1, str_of], ?_⟩
  have e : s.data.toList.length = s.size := Array.length_toList
  unfold maxLen at h3; omega
theorem opens_bool {t : TypeId} (ht : P.underlying t = some .bool) : Opens enc0 P W t isBool := fun f cs x h => by
  obtain ⟨b, h1, _⟩ := DataW.trod_bool ht h
  exact ⟨b, h1⟩
def isSl {α : Type} (W : World) (is : List Value → α → Prop) (c : Nat) (cs : List Value) (l : List α) : Prop := ∃ v, cs = [v] ∧ SlX W is c v l
theorem opens_slice {t e : TypeId} {c : Nat} (ht : P.underlying t = some (.slice e)) (hc : P.cellsOf e = c) (hc0 : 0 < c) {α : Type} {is : List Value → α → Prop} (hd : Opens enc0 P W e is) (hl : ∀ cs a, is cs a → cs.length = c) : Opens enc0 P W t (isSl W is c) := fun fuel cs x h => by
  rcases DataW.trod_slice ht h with ⟨rfl, _⟩ | ⟨a, len, cap, elems, rest, n, _, rfl, _, _, hlc, hm, hel, hread, _⟩
  · exact ⟨[], _, rfl, none, 0, rfl, Nat.le_refl _, by decide, fun h => by simp at h⟩
  · have each : ∀ i, i < len → ∃ y : α, ∃ cs, W.cells? 0 (a.add (i * c)) c = some cs ∧ is cs y := fun i hi => by
      have h1 := hread i hi
      rw [hc, List.getElem?_eq_getElem (by omega)] at h1
      cases hcell : W.cells? 0 (a.add (i * c)) c with
      | none => rw [hcell] at h1; simp at h1
      | some cs =>
        rw [hcell] at h1
        obtain ⟨y, hy⟩ := hd n cs _ h1
        exact ⟨y, cs, rfl, hy⟩
    obtain ⟨l, hll, hp⟩ := list_of len each
    subst hll
    refine ⟨l, _, rfl, some a, cap, rfl, hlc, hm, fun h0 => ?_⟩
    obtain ⟨cs0, h1, h2⟩ := hp 0 l[0] (List.getElem?_eq_getElem h0)
    have h3 := (cells_some h1).2 0 hc0
    have hlen := (cells_some h1).1
    rw [List.getElem?_eq_getElem (by omega)] at h3
    have hsp := spot_none h3
    have e0 : a.spot = none := by
      rw [Nat.zero_mul] at hsp
      unfold Addr.add at hsp
      simpa using hsp
    obtain ⟨b, off, spot⟩ := a
    simp only at e0
    subst e0
    refine ⟨b, off, rfl, fun i hi => ?_⟩
    obtain ⟨cs, h4, h5⟩ := hp i l[i] (List.getElem?_eq_getElem hi)
    refine ⟨cs, h5, fun j u hj => ?_⟩
    have hjl : j < c := by have := (List.getElem?_eq_some_iff.1 hj).1; rw [(cells_some h4).1] at this; exact this
    have h6 := (cells_some h4).2 j hjl
    rw [addr_add, addr_add] at h6
    rw [h6]; exact hj
/-- an array: its elements one behind the other -/
def isArr {α : Type} (is : List Value → α → Prop) (m c : Nat) (cs : List Value) (l : List α) : Prop := l.length = m ∧ ∀ i (h : i < l.length), is ((cs.drop (i * c)).take c) l[i]
theorem opens_array {t e : TypeId} {m c : Nat} (ht : P.underlying t = some (.array m e)) (hc : P.cellsOf e = c) {α : Type} {is : List Value → α → Prop} (hd : Opens enc0 P W e is) : Opens enc0 P W t (fun cs l => cs.length = P.cellsOf t ∧ isArr is m c cs l) := fun fuel cs x h => by
  obtain ⟨xs, n, _, _, hl, hlen, hf⟩ := DataW.trod_array ht h
  have each : ∀ i, i < m → ∃ y : α, is ((cs.drop (i * c)).take c) y := fun i hi => by
    have h1 := hf i hi
    rw [hc, List.getElem?_eq_getElem (by omega)] at h1
    exact hd n _ _ h1
  obtain ⟨l, hll, hp⟩ := list_of m each
  exact ⟨l, hl, hll, fun i hi => hp i _ (List.getElem?_eq_getElem hi)⟩
/-- an array of numbers -/
def isInts (k : IntKind) (lo hi : Int) (m : Nat) (cs : List Value) (l : List Int) : Prop := l.length = m ∧ cs = l.map (.int k) ∧ ∀ x ∈ l, lo ≤ x ∧ x ≤ hi
theorem ints_of_arr {k : IntKind} {lo hi : Int} {m : Nat} {cs : List Value} {l : List Int} (hl : cs.length = m) (h : isArr (isInt k lo hi) m 1 cs l) : isInts k lo hi m cs l := by
  obtain ⟨h1, h2⟩ := h
  refine ⟨h1, ?_, fun x hx => ?_⟩
  · apply List.ext_getElem?
    intro i
    by_cases hi : i < l.length
    · have h3 := (h2 i hi).1
      rw [Nat.mul_one] at h3
      have hic : i < cs.length := by omega
      rw [List.drop_eq_getElem_cons hic, List.take_succ_cons, List.take_zero] at h3
      injection h3 with h3 _
      rw [List.getElem?_eq_getElem hic, List.getElem?_map, List.getElem?_eq_getElem hi, h3]; rfl
    · rw [List.getElem?_eq_none (by omega), List.getElem?_eq_none (by simp; omega)]
  · obtain ⟨i, hi, rfl⟩ := List.mem_iff_getElem.1 hx
    exact (h2 i hi).2
/-- a struct's fields -/
theorem field_of {t : TypeId} {fs : Array Field} (ht : P.underlying t = some (.struct fs)) {fuel : Nat} {cs : List Value} {x : DataW H × List MemPlace} (h : DataW.trod enc0 P W 0 (fun _ => true) true fuel t cs = some x) :
    cs.length = P.cellsOf t ∧ ∀ (i : Nat) (f : Field), fs[i]? = some f → ∀ {α : Type} {is : List Value → α → Prop}, Opens enc0 P W f.type is → ∃ a, is ((cs.drop f.offset).take (P.cellsOf f.type)) a := by
  obtain ⟨xs, n, _, _, hl, hlen, hf⟩ := DataW.trod_struct ht h
  refine ⟨hl, fun i f hi α is ho => ?_⟩
  have h1 := hf i f hi
  have : i < xs.length := by rw [hlen]; exact (Array.getElem?_eq_some_iff.1 hi).1
  rw [List.getElem?_eq_getElem this] at h1
  exact ho n _ _ h1
/-- at the top -/
theorem top_agg {t : TypeId} {fs : Array Field} (ht : P.underlying t = some (.struct fs)) {base : Nat} {v : Value} {d : DataW H} {ps : List MemPlace} (hv : Value.okWide P W .any base t v) (h : DataW.Trod enc0 P W 0 (fun _ => true) true t v d ps) : ∃ cs fuel, v = .agg cs ∧ DataW.trod enc0 P W 0 (fun _ => true) true fuel t cs.toList = some (d, ps) := by
  simp only [Value.okWide, ht] at hv
  obtain ⟨cs, rfl, _, _⟩ := hv
  obtain ⟨fuel, hf⟩ := h
  exact ⟨cs, fuel, rfl, hf⟩
theorem top_arr {t e : TypeId} {m : Nat} (ht : P.underlying t = some (.array m e)) {base : Nat} {v : Value} {d : DataW H} {ps : List MemPlace} (hv : Value.okWide P W .any base t v) (h : DataW.Trod enc0 P W 0 (fun _ => true) true t v d ps) : ∃ cs fuel, v = .agg cs ∧ DataW.trod enc0 P W 0 (fun _ => true) true fuel t cs.toList = some (d, ps) := by
  simp only [Value.okWide, ht] at hv
  obtain ⟨cs, rfl, _, _⟩ := hv
  obtain ⟨fuel, hf⟩ := h
  exact ⟨cs, fuel, rfl, hf⟩
theorem top_slice {t e : TypeId} {c : Nat} (ht : P.underlying t = some (.slice e)) (hc : P.cellsOf e = c) (hc0 : 0 < c) {α : Type} {is : List Value → α → Prop} (hd : Opens enc0 P W e is) (hl : ∀ cs a, is cs a → cs.length = c) {base : Nat} {v : Value} {d : DataW H} {ps : List MemPlace} (hv : Value.okWide P W .any base t v) (h : DataW.Trod enc0 P W 0 (fun _ => true) true t v d ps) : ∃ l, SlX W is c v l := by
  obtain ⟨a0, len, cap, rfl⟩ := okWide_slice ht hv
  obtain ⟨fuel, hf⟩ := h
  have hf' : DataW.trod enc0 P W 0 (fun _ => true) true fuel t [.slice a0 len cap] = some (d, ps) := hf
  obtain ⟨l, v', hv', hs⟩ := opens_slice ht hc hc0 hd hl _ _ _ hf'
  obtain rfl : Value.slice a0 len cap = v' := by simpa using hv'
  exact ⟨l, hs⟩
end
/-- a slice of one-cell elements -/
theorem SlX.sl {α : Type} {W : World} {is : List Value → α → Prop} {f : α → Value} {v : Value} {l : List α} (h : SlX W is 1 v l) (hf : ∀ cs a, is cs a → cs = [f a]) : Sl W v l.length (l.map f) := by
  obtain ⟨base, cap, h1, h2, h3, h4⟩ := h
  refine ⟨base, cap, h1, h2, h3, fun h0 => ?_⟩
  obtain ⟨b, off, h5, h6⟩ := h4 h0
  refine ⟨b, off, h5, fun j u hj => ?_⟩
  have hjl : j < l.length := by simpa using (List.getElem?_eq_some_iff.1 hj).1
  obtain ⟨cs, h7, h8⟩ := h6 j hjl
  have := h8 0 (f l[j]) (by rw [hf _ _ h7]; rfl)
  simp only [Nat.mul_one, Nat.add_zero] at this
  rw [this, ← hj]; simp [hjl]
/-- seen from a later world -/
theorem SlX.up {α : Type} {W w : World} {L : List Own} {is : List Value → α → Prop} {c : Nat} {v : Value} {l : List α} (h : SlX W is c v l) (hm : Mem W L w) : SlX w is c v l := by
  obtain ⟨base, cap, h1, h2, h3, h4⟩ := h
  exact ⟨base, cap, h1, h2, h3, fun h0 => let ⟨b, off, h5, h6⟩ := h4 h0; ⟨b, off, h5, fun i hi => let ⟨cs, h7, h8⟩ := h6 i hi; ⟨cs, h7, fun j u hj => hm.cell (h8 j u hj)⟩⟩⟩
end Go.Proofs.YtkcnoompimohnaaDoor.eng

/- MixV -/
namespace Go.Proofs.YtkcnoompimohnaaDoor.eng
open Go.RowKit kit mix
section
variable {P : Program} {ops : Array Oper} {md : Region.Mode} {Q : Exit → Act → World → Prop} {U : World → Prop}
/-- one operation, in whatever form it is walked -/
theorem wpOp_of_list {K : Act → World → Prop} {i : Nat} {o : Oper} {a : Act} {w : World} (hi : ops[i]? = some o) (h : wpList P ops (Exit.then K Q) [o] a w) : wpOp P ops Q i K a w := by
  have key : ∀ r, o.upon P a (wpList P ops (Exit.then K Q) []) (Exit.then K Q) r → o.upon P a K Q r := fun r hr => by
    cases r with
    | ok x w' =>
      cases x <;> first
        | exact hr
        | (refine Calls.mono hr fun e w'' he => ?_; cases e <;> exact he)
        | exact Rows.mono hr fun v w'' he => he
    | halt x w' => cases x <;> exact hr
  unfold wpList at h
  unfold wpOp
  rw [hi]
  simp only
  split
  · rename_i hw
    rw [if_pos hw] at h
    rcases h with h | h
    · exact .inl (key _ h)
    · exact .inr h
  · rename_i hw
    rw [if_neg hw] at h
    exact h
def wpAnyV (P : Program) (md : Region.Mode) (ops : Array Oper) (Q : Exit → Act → World → Prop) (U : World → Prop) : Nat → Array Bool → Act → (World → Prop) → Prop
  | 0, listed, a, S => Region.ready md ops listed = [] ∧ ∀ w, S w → Q .normal a w
  | f + 1, listed, a, S => (Region.ready md ops listed = [] → ∀ w, S w → Q .normal a w) ∧
    ∀ i ∈ Region.ready md ops listed, ∀ w, S w → wpOp P ops Q i (fun a' w' => ∃ S', Closed S' ∧ (∀ x, S' x → U x) ∧ S' w' ∧ wpAnyV P md ops Q U f (listed.setIfInBounds i true) a' S') a w
theorem wpAny_of_V : ∀ (f : Nat) (listed : Array Bool) (a : Act) (S : World → Prop) (w : World), S w → wpAnyV P md ops Q U f listed a S → wpAny P md ops Q f listed a w
  | 0, _, _, _, w, hw, h => ⟨h.1, h.2 w hw⟩
  | f + 1, _, _, _, w, hw, h => ⟨fun h0 => h.1 h0 w hw, fun i hi => wpOp_mono (fun a' w' ⟨S', _, _, hw', h'⟩ => wpAny_of_V f _ a' S' w' hw' h') (h.2 i hi w hw)⟩
theorem wpAnyV_first {i : Nat} {oi : Oper} {v : Value} (hi : ops[i]? = some oi) (hsel : ∀ (j : Nat) (o : Oper) cs b, ops[j]? = some o → o.op ≠ .select cs b)
    (hQ : ∀ c a w, Q (.panic c) (a.put oi.dst v) w → Q (.panic c) a w) :
    ∀ (f : Nat) (listed : Array Bool) (a : Act) (S : World → Prop), Closed S → (∀ x, S x → U x) →
      (∀ j oj, ops[j]? = some oj → j ≠ i → listed.getD j true = false → (∀ e ∈ oj.after, Region.binds md e = true → e.on ≠ i) → oi.apart ops oj = true) →
      i ∈ Region.ready md ops listed → CalmIn P ops U oi v a →
      wpAnyV P md ops Q U f (listed.setIfInBounds i true) (a.put oi.dst v) S → wpAnyV P md ops Q U (f + 1) listed a S := by
  intro f
  induction f with
  | zero =>
    intro listed a S hcl hsu _ hr hy H
    refine ⟨fun h => (by rw [h] at hr; cases hr), fun j hj w hw => ?_⟩
    by_cases hji : j = i
    · subst hji; exact (hy.mono hsu).wpOp hi hcl hw fun w' hw' => ⟨S, hcl, hsu, hw', H⟩
    · have := ready_mono (md := md) hj hji
      rw [H.1] at this; cases this
  | succ f ih =>
    intro listed a S hcl hsu hfree hr hy H
    have hun := (mem_ready.1 hr).1
    refine ⟨fun h => (by rw [h] at hr; cases hr), fun j hj w hw => ?_⟩
    by_cases hji : j = i
    · subst hji; exact (hy.mono hsu).wpOp hi hcl hw fun w' hw' => ⟨S, hcl, hsu, hw', H⟩
    · have h1 := H.2 j (ready_mono hj hji) w hw
      obtain ⟨hjun, oj, hoj, hall⟩ := mem_ready.1 hj
      have hnot : ∀ e ∈ oj.after, Region.binds md e = true → e.on ≠ i := fun e he hb heq => by
        have h1 := hall e he hb
        rw [heq, getD_both hun] at h1
        cases h1
      have h2 := wpOp_calm hoj (hfree j oj hoj hji hjun hnot) (fun cs b => hsel i oi cs b hi) (fun cs b => hsel j oj cs b hoj) hQ hy h1
      have hfree' : ∀ k ok, ops[k]? = some ok → k ≠ i → (listed.setIfInBounds j true).getD k true = false →
          (∀ e ∈ ok.after, Region.binds md e = true → e.on ≠ i) → oi.apart ops ok = true := fun k ok hk hki hun hno => by
        refine hfree k ok hk hki ?_ hno
        by_cases hjk : j = k
        · subst hjk; exact hjun
        · rw [getD_set_ne true hjk] at hun; exact hun
      refine wpOp_mono (fun a' w' h3 => ?_) h2
      obtain ⟨h3, S', hcl', hsub, hw', h4⟩ := h3
      refine ⟨S', hcl', hsub, hw', ih (listed.setIfInBounds j true) a' S' hcl' hsub hfree' (ready_mono hr (Ne.symm hji)) h3 ?_⟩
      rw [Array.setIfInBounds_comm _ _ hji]
      exact h4
/-- the walk, in the chosen order: 'true': a calm operation -/
def wpV (P : Program) (ops : Array Oper) (Q : Exit → Act → World → Prop) (U : World → Prop) : List Bool → List Oper → Act → (World → Prop) → Prop
  | true :: ks, o :: rest, a, S => ∃ v, (if Region.wanted o (yielded ops a.tmps) then ∀ w, U w → calmAt P o a w v else v = undef) ∧ wpV P ops Q U ks rest (a.put o.dst v) S
  | false :: ks, o :: rest, a, S => ∀ w, S w → wpList P ops (Exit.then (fun a' w' => ∃ S', Closed S' ∧ (∀ x, S' x → U x) ∧ S' w' ∧ wpV P ops Q U ks rest a' S') Q) [o] a w
  | _, _, a, S => ∀ w, S w → Q .normal a w
def orderV (md : Region.Mode) (ops : Array Oper) : List (Nat × Bool) → Array Bool → Bool
  | (i, true) :: r, listed => (Region.ready md ops listed).contains i && Region.free md ops listed i && orderV md ops r (listed.setIfInBounds i true)
  | (i, false) :: r, listed => decide (Region.ready md ops listed = [i]) && orderV md ops r (listed.setIfInBounds i true)
  | [], listed => decide (Region.ready md ops listed = [])
theorem wpAnyV_lex (hsel : Region.noSelect ops = true) (hQ : ∀ c a d v w, Q (.panic c) (Act.put a d v) w → Q (.panic c) a w) :
    ∀ (is : List (Nat × Bool)) (l : List Oper) (listed : Array Bool) (a : Act) (S : World → Prop), Closed S → (∀ x, S x → U x) → (∀ (j : Nat), (l[j]? : Option Oper) = (is[j]?).bind fun (p : Nat × Bool) => ops[p.1]?) → l.length = is.length → orderV md ops is listed = true →
    wpV P ops Q U (is.map (·.2)) l a S → wpAnyV P md ops Q U is.length listed a S
  | [], l, listed, a, S, _, _, _, hl, ho, h => by
    have hl0 : l = [] := List.eq_nil_of_length_eq_zero (by simpa using hl)
    subst hl0
    exact ⟨by simpa [orderV] using ho, h⟩
  | (i, b) :: is, [], _, _, _, _, _, _, hl, _, _ => by simp at hl
  | (i, true) :: is, o :: l, listed, a, S, hcl, hsu, hget, hl, ho, h => by
    have h0 : ops[i]? = some o := by have := hget 0; simpa using this.symm
    simp only [orderV, Bool.and_eq_true] at ho
    obtain ⟨⟨hr, hf⟩, ho'⟩ := ho
    have hr' : i ∈ Region.ready md ops listed := by simpa using hr
    obtain ⟨v, hy, hK⟩ := h
    have hy' : CalmIn P ops U o v a := by
      by_cases hw : Region.wanted o (yielded ops a.tmps) = true
      · rw [if_pos hw] at hy; exact .inl ⟨hw, hy⟩
      · rw [if_neg hw] at hy; exact .inr ⟨by simpa using hw, hy⟩
    exact wpAnyV_first h0 (Region.noSelect_spec hsel) (fun c a w => hQ c a o.dst v w) is.length listed a S hcl hsu (Region.free_spec h0 hf) hr' hy'
      (wpAnyV_lex hsel hQ is l _ _ S hcl hsu (fun j => by have := hget (j + 1); simpa using this) (by simpa using hl) ho' hK)
  | (i, false) :: is, o :: l, listed, a, S, hcl, hsu, hget, hl, ho, h => by
    have h0 : ops[i]? = some o := by have := hget 0; simpa using this.symm
    simp only [orderV, Bool.and_eq_true, decide_eq_true_eq] at ho
    obtain ⟨hr, ho'⟩ := ho
    refine ⟨fun h' => (by rw [hr] at h'; cases h'), fun j hj w hw => ?_⟩
    obtain rfl : j = i := by rw [hr] at hj; simpa using hj
    refine wpOp_mono (fun a' w' ⟨S', hcl', hsu', hw', hK⟩ => ⟨S', hcl', hsu', hw', ?_⟩) (wpOp_of_list h0 (h w hw))
    exact wpAnyV_lex hsel hQ is l _ _ S' hcl' hsu' (fun j => by have := hget (j + 1); simpa using this) (by simpa using hl) ho' hK
end
/-- a region's operations in the chosen order -/
structure TV (P : Program) (n : Nat) (W : Base) (ops : Array Oper) (Q : Exit → Act → World → Prop) (L0 : List Own) (ks : List Bool) (l : List Oper) (fr : Fr) (L : List Own) : Prop where
  go : ∀ a, Rep n a fr → wpV P ops Q (Mem W L0) ks l a (Mem W L)
section
variable {P : Program} {n : Nat} {W : Base} {Q : Exit → Act → World → Prop} {fr : Fr} {L L0 : List Own} {ops : Array Oper} {ks : List Bool} {o : Oper} {rest : List Oper} {v : Value} {d : Nat}
def orderB (l : List Oper) (is : List (Nat × Bool)) : Bool := Nat.beq is.length l.length && Region.noSelect l.toArray && orderV .any l.toArray is (Array.replicate l.toArray.size false) && is.all fun p => Nat.blt p.1 l.length
theorem T_order {id : Nat} {l : List Oper} (L0 : List Own) (is : List (Nat × Bool)) (hsub : ∀ w, Mem W L w → Mem W L0 w) (hm : P.follows .mixedOrders = true) (hB : orderB l is = true)
    (hQ : ∀ c a d v w, Q (.panic c) (Act.put a d v) w → Q (.panic c) a w)
    (h : TV P n W l.toArray Q L0 (is.map (·.2)) (is.filterMap fun p => l[p.1]?) fr L) : T P n W (.region id l.toArray true) Q fr L := ⟨fun a w hr hmm => by
  simp only [orderB, Bool.and_eq_true] at hB
  obtain ⟨⟨⟨h1, h2⟩, h3⟩, h4⟩ := hB
  have hlen := Nat.eq_of_beq_eq_true h1
  refine wp_region_any hm ?_
  have hall : ∀ p ∈ is, p.1 < l.length := fun p hp => Nat.le_of_ble_eq_true (List.all_eq_true.1 h4 p hp)
  have hget : ∀ (is : List (Nat × Bool)), (∀ p ∈ is, p.1 < l.length) → ∀ (j : Nat), ((is.filterMap fun p => l[p.1]?)[j]? : Option Oper) = (is[j]?).bind fun (p : Nat × Bool) => l.toArray[p.1]? := by
    intro is
    induction is with
    | nil => intro _ j; simp
    | cons p is ih =>
      intro hp j
      have hp0 := hp p (by simp)
      have e0 : (fun (p : Nat × Bool) => l[p.1]?) p = some l[p.1] := List.getElem?_eq_getElem hp0
      rw [List.filterMap_cons_some (f := fun (p : Nat × Bool) => l[p.1]?) e0]
      cases j with
      | zero => simp [hp0]
      | succ j => simpa using ih (fun q hq => hp q (by simp [hq])) j
  have hlen2 : ∀ (is : List (Nat × Bool)), (∀ p ∈ is, p.1 < l.length) → (is.filterMap fun p => l[p.1]?).length = is.length := by
    intro is
    induction is with
    | nil => intro _; simp
    | cons p is ih =>
      intro hp
      have e0 : (fun (p : Nat × Bool) => l[p.1]?) p = some (l[p.1]'(hp p (by simp))) := List.getElem?_eq_getElem (hp p (by simp))
      rw [List.filterMap_cons_some (f := fun (p : Nat × Bool) => l[p.1]?) e0]
      simp [ih (fun q hq => hp q (by simp [hq]))]
  have hsz : l.toArray.size = is.length := by rw [hlen]; simp
  have := wpAny_of_V (U := Mem W L0) is.length (Array.replicate l.toArray.size false) a (Mem W L) w.drew hmm.drew
    (wpAnyV_lex h2 hQ is _ _ a (Mem W L) (closed_mem W L) hsub (hget is hall) (hlen2 is hall) h3 (h.go a hr))
  rw [← hsz] at this
  exact this⟩
theorem TV_val (hr : RR P n W o fr L0 v) (hg : o.guard = none) (hd : o.dst = some d) (hn : Nat.blt d n = true) (h : TV P n W ops Q L0 ks rest ((d, v) :: fr) L) : TV P n W ops Q L0 (true :: ks) (o :: rest) fr L := ⟨fun a hrep =>
  ⟨v, by rw [if_pos (wanted_none hg)]; intro w hw; unfold calmAt; rw [hr.go a w hrep hw]; exact ⟨rfl, Gr.refl _⟩, by rw [hd]; exact h.go _ (hrep.put hn v)⟩⟩
theorem TV_gval {j e : Nat} {b : Bool} (hr : RR P n W o fr L0 v) (hg : o.guard = some (j, b)) (hj : (ops[j]?).bind (·.dst) = some e) (hl : look fr e = some (.bool b)) (hd : o.dst = some d) (hn : Nat.blt d n = true) (h : TV P n W ops Q L0 ks rest ((d, v) :: fr) L) : TV P n W ops Q L0 (true :: ks) (o :: rest) fr L := ⟨fun a hrep =>
  ⟨v, by rw [if_pos (wanted_yes hrep hg hj hl)]; intro w hw; unfold calmAt; rw [hr.go a w hrep hw]; exact ⟨rfl, Gr.refl _⟩, by rw [hd]; exact h.go _ (hrep.put hn v)⟩⟩
theorem TV_skip {j e : Nat} {b : Bool} {u : Value} (hg : o.guard = some (j, b)) (hj : (ops[j]?).bind (·.dst) = some e) (hl : look fr e = some u) (hu : notB b u = true) (hd : o.dst = some d) (hn : Nat.blt d n = true) (h : TV P n W ops Q L0 ks rest ((d, undef) :: fr) L) : TV P n W ops Q L0 (true :: ks) (o :: rest) fr L := ⟨fun a hrep =>
  ⟨undef, by rw [wanted_no hrep hg hj hl hu]; rfl, by rw [hd]; exact h.go _ (hrep.put hn undef)⟩⟩
theorem TV_call {f : FuncId} {args : Array Value} (he : ∀ a w, Rep n a fr → (execOp a.eval o).run P w = .ok (.enter f args) w) (hc : ∀ w, Mem W L0 w → Calls P f args w (Meets (ret v) w)) (hg : o.guard = none) (hd : o.dst = some d) (hn : Nat.blt d n = true)
    (h : TV P n W ops Q L0 ks rest ((d, v) :: fr) L) : TV P n W ops Q L0 (true :: ks) (o :: rest) fr L := ⟨fun a hrep =>
  ⟨v, by rw [if_pos (wanted_none hg)]; intro w hw; unfold calmAt; rw [he a w hrep]; exact ⟨Gr.refl _, (hc w hw).mono fun _ _ h => of_meets h⟩, by rw [hd]; exact h.go _ (hrep.put hn v)⟩⟩
/-- an operation of any kind, walked as in the text's order -/
theorem TV_do (h : TL P n W ops (Exit.then (fun a' w' => ∃ S', Closed S' ∧ (∀ x, S' x → Mem W L0 x) ∧ S' w' ∧ wpV P ops Q (Mem W L0) ks rest a' S') Q) [o] fr L) : TV P n W ops Q L0 (false :: ks) (o :: rest) fr L := ⟨fun a hrep w hw => h.go a w hrep hw⟩
theorem TV_on {Q' : Exit → Act → World → Prop} {L' : List Own} {fr' : Fr} (hsub : ∀ w, Mem W L' w → Mem W L0 w) (h : TV P n W ops Q L0 ks rest fr' L') : TL P n W ops (Exit.then (fun a' w' => ∃ S', Closed S' ∧ (∀ x, S' x → Mem W L0 x) ∧ S' w' ∧ wpV P ops Q (Mem W L0) ks rest a' S') Q') [] fr' L' :=
  TL_nil ⟨fun a w hr hm => ⟨Mem W L', closed_mem _ _, hsub, hm, h.go a hr⟩⟩
theorem TV_nil (h : E n W .normal Q fr L) : TV P n W ops Q L0 [] [] fr L := ⟨fun a hr w hw => h.go a w hr hw⟩
theorem sub_pick {L' : List Own} (is : List Nat) (hn : is.Nodup) (hl : L' = is.filterMap fun i => L[i]?) : ∀ w, Mem W L w → Mem W L' w := fun w h => h.pick is hn hl
theorem sub_nil : ∀ w, Mem W L w → Mem W [] w := fun w h => ⟨h.low, OwnsP.nil _⟩
theorem TV_valg (hg : o.guard = none) (hr : RR P n W o fr L0 v) (hd : o.dst = some d) (hn : Nat.blt d n = true) (h : TV P n W ops Q L0 ks rest ((d, v) :: fr) L) : TV P n W ops Q L0 (true :: ks) (o :: rest) fr L := TV_val hr hg hd hn h
theorem TV_gvalg {j e : Nat} {b : Bool} (hg : o.guard = some (j, b)) (hj : (ops[j]?).bind (·.dst) = some e) (hl : look fr e = some (.bool b)) (hr : RR P n W o fr L0 v) (hd : o.dst = some d) (hn : Nat.blt d n = true) (h : TV P n W ops Q L0 ks rest ((d, v) :: fr) L) : TV P n W ops Q L0 (true :: ks) (o :: rest) fr L := TV_gval hr hg hj hl hd hn h
end
end Go.Proofs.YtkcnoompimohnaaDoor.eng

/- Seq -/
namespace Go.Proofs.YtkcnoompimohnaaDoor.eng
open Go.RowKit kit mix
section
variable {α : Type} {f : α → List Value} {c : Nat}
theorem get_el (hc : ∀ a, (f a).length = c) : ∀ (l : List α) (k j : Nat) (h : k < l.length), j < c → (l.flatMap f)[k * c + j]? = (f l[k])[j]?
  | a :: r, 0, j, h, hj => by
    rw [List.flatMap_cons, List.getElem?_append_left (by rw [hc]; omega)]
    simp
  | a :: r, k + 1, j, h, hj => by
    have ih := get_el hc r k j (by simpa using h) hj
    rw [List.flatMap_cons, List.getElem?_append_right (by rw [hc, Nat.succ_mul]; omega), hc]
    simp only [List.getElem_cons_succ]
    rw [← ih, Nat.succ_mul]
    congr 1
    omega
theorem len_el (hc : ∀ a, (f a).length = c) : ∀ (l : List α), (l.flatMap f).length = l.length * c
  | [] => by simp
  | a :: r => by rw [List.flatMap_cons, List.length_append, hc, len_el hc r, List.length_cons, Nat.succ_mul, Nat.add_comm]
theorem at_el (hc : ∀ a, (f a).length = c) {W : World} {L : List Own} {b off : Nat} {l : List α} (h : Rd W b off (l.flatMap f)) {k : Nat} (hk : k < l.length) (j : Nat) (u : Value) (hu : (f l[k])[j]? = some u) : At W L ⟨b, off + k * c + j, none⟩ u := by
  have hj : j < c := by rw [← hc l[k]]; exact (List.getElem?_eq_some_iff.1 hu).1
  rw [Nat.add_assoc]
  exact at_rd h (by rw [get_el hc l k j hk hj]; exact hu)
/-- the same of cells that are known as long as L is -/
theorem at_elL (hc : ∀ a, (f a).length = c) {W : Base} {L : List Own} {b off : Nat} {l : List α} (h : ∀ j u, (l.flatMap f)[j]? = some u → At W L ⟨b, off + j, none⟩ u) {k : Nat} (hk : k < l.length) (j : Nat) (u : Value) (hu : (f l[k])[j]? = some u) : At W L ⟨b, off + k * c + j, none⟩ u := by
  have hj : j < c := by rw [← hc l[k]]; exact (List.getElem?_eq_some_iff.1 hu).1
  rw [Nat.add_assoc]
  exact h _ _ (by rw [get_el hc l k j hk hj]; exact hu)
theorem at_rowel (hc : ∀ a, (f a).length = c) {W : Base} {L : List Own} {i g m cap n size : Nat} {e : TypeId} {l : List α} (hi : L[i]? = some (rowO e size (.slice (some ⟨g, 0, none⟩) m cap) n (l.flatMap f))) {k : Nat} (hk : k < l.length) (j : Nat) (u : Value) (hu : (f l[k])[j]? = some u) : At W L ⟨g, 0 + k * c + j, none⟩ u :=
  at_elL hc (off := 0) (fun q x hq => by rw [Nat.zero_add]; exact at_row hi hq) hk j u hu
end
/-- the place of the first one that is wanted, or -1 -/
def idxF {α : Type} (p : α → Bool) (l : List α) : Int := match l.findIdx? p with | some i => i | none => -1
theorem idxF_some {α : Type} {p : α → Bool} {l : List α} {i : Nat} (hi : i < l.length) (h : p l[i] = true) (hb : ∀ j (hj : j < l.length), j < i → p l[j] = false) : idxF p l = i := by
  have : l.findIdx? p = some i := List.findIdx?_eq_some_iff_getElem.2 ⟨hi, h, fun j hji => by simpa using hb j (by omega) hji⟩
  simp [idxF, this]
theorem idxF_none {α : Type} {p : α → Bool} {l : List α} (hb : ∀ j (hj : j < l.length), p l[j] = false) : idxF p l = -1 := by
  have : l.findIdx? p = none := List.findIdx?_eq_none_iff.2 fun x hx => by
    obtain ⟨j, hj, rfl⟩ := List.mem_iff_getElem.1 hx
    exact hb j hj
  simp [idxF, this]
theorem idxF_any {α : Type} (p : α → Bool) (l : List α) : decide (0 ≤ idxF p l) = l.any p := by
  unfold idxF
  cases e : l.findIdx? p with
  | none =>
    have := List.findIdx?_eq_none_iff.1 e
    have h2 : l.any p = false := by
      rw [List.any_eq_false]; intro x hx; simp [this x hx]
    rw [h2]; rfl
  | some i =>
    obtain ⟨h1, h2, _⟩ := List.findIdx?_eq_some_iff_getElem.1 e
    have h3 : l.any p = true := List.any_eq_true.2 ⟨l[i], List.getElem_mem h1, h2⟩
    rw [h3]
    simp
theorem idxF_range {α : Type} (p : α → Bool) (l : List α) : -1 ≤ idxF p l ∧ idxF p l < l.length ∨ idxF p l = -1 := by
  unfold idxF
  cases e : l.findIdx? p with
  | none => right; rfl
  | some i =>
    obtain ⟨h1, h2, _⟩ := List.findIdx?_eq_some_iff_getElem.1 e
    left; simp only; omega
section
variable {P : Program} {n : Nat} {W : Base} {fr : Fr} {L : List Own} {Q : Exit → Act → World → Prop} {ops : Array Oper} {rest : List Oper} {d : Nat} {dst : Option Tmp} {ty : TypeId} {pos : String} {after : Array Edge} {guard : Option (Nat × Bool)}
/-- a slice held against nil -/
theorem rr_slnil {t e u : TypeId} {x y : Operand} {a : Option Addr} {m c : Nat} {b : Bool} (ht : P.underlying t = some (.slice e)) (hx : ev fr x = some (.slice a m c)) (hy : ev fr y = some (.slice none 0 0)) (hb : a.isNone = b) : RR P n W ⟨dst, .binOp .eql t x y u, ty, pos, after, guard⟩ fr L (.bool b) := .mk fun ac w hr _ => by
  subst hb
  have e1 : (eqGuard .eql t x y (.slice a m c) (.slice none 0 0)).run P w = .ok () w := rfl
  simp [execOp, hr.ev hx, hr.ev hy, e1, Go.Lib.run_eql_slice_nil w t e a m c 0 0 ht]
/-- a literal of no elements -/
theorem TL_lit0 {t e : TypeId} {c bytes : Nat} [hel : ElC P t e c bytes] (hn : Nat.blt d n = true)
    (h : ∀ g, TL P n W ops Q rest ((d, .slice (some ⟨g, 0, none⟩) 0 0) :: fr) (L ++ [rowO e c (.slice (some ⟨g, 0, none⟩) 0 0) 0 []])) : TL P n W ops Q (⟨some d, .buildSlice t 0 #[], ty, pos, after, none⟩ :: rest) fr L := TL_any rfl fun a w hr hm K hK => by
  obtain ⟨i, z, ht, hi, hz, hc, _, hzc, h0⟩ := hel.el.ex
  have e' : (execOp a.eval ⟨some d, .buildSlice t 0 #[], ty, pos, after, none⟩).run P w = .ok (.value (.slice (some ⟨w.heap.size, 0, none⟩) 0 0)) (w.alloc (.cells #[] e)) := by
    have hne : ¬ (0 * c > 2 ^ 24) := by omega
    simp [execOp, Instr.buildSlice, run_underlying ht, sizeOf, typeInfo, hi, hc, zeroValue, hz, Instr.fill, newRow]
    have e0 : Array.range 0 = #[] := by simp
    rw [e0, Array.map_empty]
  unfold Oper.wp; rw [e']
  exact hK _ _ ((h w.heap.size).go _ _ (hr.put hn _) (hm.append (gr_alloc w _) (Owns.one (World.ownsRow_made w #[] 0 (Nat.zero_le _) (by decide) (by simp)) fun k hk => by
    have : w.heap.size = k := Option.some.inj hk
    omega)))
/-- what is read as a slice is appended to an own one -/
theorem TL_appSl {t e : TypeId} {s x : Operand} {i size bytes m k : Nat} {v v2 : Value} {xs ys : List Value} [hel : ElC P t e size bytes] (hi : L[i]? = some (rowO e size v m xs)) (hx2 : SlL W L v2 k ys) (hs : ev fr s = some v) (hx : ev fr x = some v2) (hk : ys.length = k * size)
    (h1 : ∀ u ∈ ys, u.oneCell' = true) (h63 : m + k ≤ 140737488355328) (hb : (m + k) * bytes ≤ 140737488355328) (hn : Nat.blt d n = true)
    (h : ∀ v', TL P n W ops Q rest ((d, v') :: fr) (L.set i (rowO e size v' (m + k) (xs ++ ys)))) :
    TL P n W ops Q (⟨some d, .call { callee := .builtin .append, args := #[s, x], argTypes := #[t, t] }, ty, pos, after, none⟩ :: rest) fr L := ⟨fun a w hr hm => by
  obtain ⟨base, cap, rfl, hc1, hc2, hrd⟩ := hx2 w hm
  have hset : ys = [] → L.set i (rowO e size v (m + 0) (xs ++ [])) = L := fun _ => by
    rw [List.append_nil, Nat.add_zero]
    apply List.ext_getElem?
    intro q
    by_cases hq : i = q
    · subst hq
      rw [List.getElem?_set_self (List.getElem?_eq_some_iff.1 hi).1, hi]
    · rw [List.getElem?_set_ne hq]
  cases base with
  | none =>
    have hk0 : k = 0 := by
      rcases Nat.eq_zero_or_pos k with h | h
      · exact h
      · obtain ⟨b, off, h, _⟩ := hrd h; cases h
    subst hk0
    have hy : ys = [] := List.eq_nil_of_length_eq_zero (by rw [hk]; simp)
    subst hy
    have h2 := h v
    rw [hset rfl] at h2
    exact (TL_append0 hel.el hi hs hx hn h2).go a w hr hm
  | some p =>
    have hrd' : ∀ j u, ys[j]? = some u → w.cell? (p.add j) = some u := fun j u hj => by
      obtain ⟨b, off, hb, hr⟩ := hrd (by
        rcases Nat.eq_zero_or_pos k with h | h
        · subst h
          have := (List.getElem?_eq_some_iff.1 hj).1
          rw [hk] at this; simp at this
        · exact h)
      simp only [Option.some.injEq] at hb
      subst hb
      rw [addr_add]; exact hr j u hj
    exact TL_append_at (c := cap) hel.el hi hs hx hrd' hk h1 h63 hb hn h hr hm⟩
/-- an own slice's value is one cell -/
theorem TL_slv {i size m : Nat} {e : TypeId} {v : Value} {xs : List Value} (hi : L[i]? = some (rowO e size v m xs)) (h : v.cells = #[v] → v.oneCell' = true → TL P n W ops Q rest fr L) : TL P n W ops Q rest fr L := ⟨fun a w hr hm => by
  have h1 : w.ownsRow 0 e size v m xs := hm.get hi
  rcases h1.2 with ⟨hv, _⟩ | ⟨g, cap, cur, hv, _⟩
  · exact (h (by rw [hv]; rfl) (by rw [hv]; rfl)).go a w hr hm
  · exact (h (by rw [hv]; rfl) (by rw [hv]; rfl)).go a w hr hm⟩
/-- 's[i:j]' of a slice -/
def subV (base : Option Addr) (cap c i j : Nat) : Value := .slice (if cap = i then base else base.map (fun (q : Addr) => q.add (i * c))) (j - i) (cap - i)
theorem rr_slgen {t e : TypeId} {x : Operand} {lo hi : Option Operand} {agg : Bool} {c i j len cap : Nat} {base : Option Addr} (ht : P.underlying t = some (.slice e)) (he : Ty P e agg c) (hx : ev fr x = some (.slice base len cap))
    (hlo : match lo with | none => i = 0 | some z => ∃ k, ev fr z = some (.int k (i : Int))) (hhi : match hi with | none => j = len | some z => ∃ k, ev fr z = some (.int k (j : Int))) (h1 : i ≤ j) (h2 : j ≤ cap) :
    RR P n W ⟨dst, .slice t x lo hi none, ty, pos, after, guard⟩ fr L (subV base cap c i j) := .mk fun a w hr _ => by
  have e0 : (0 : Int) ≤ (i : Int) := by omega
  have hb : ∀ (k : IntKind) (p q : Nat) (cd : BoundsCode), p ≤ q → (Instr.sliceBound (.int k (p : Int)) q cd).run P w = .ok p w := fun k p q cd h => by
    have : (0 : Int) ≤ (p : Int) ∧ (p : Int) ≤ (q : Int) := by omega
    simp [Instr.sliceBound, asIntOf, this]
  unfold subV
  cases lo <;> cases hi
  · simp only at hlo hhi
    subst hlo hhi
    simp [execOp, hr.ev hx, Instr.sliceAt, Instr.slice, run_underlying ht, Instr.sliceBounds, he.size]
  · obtain ⟨k, hk⟩ := hhi
    simp only at hlo
    subst hlo
    simp [execOp, hr.ev hx, hr.ev hk, Instr.sliceAt, Instr.slice, run_underlying ht, Instr.sliceBounds, he.size, hb k j cap _ h2]
  · obtain ⟨k, hk⟩ := hlo
    simp only at hhi
    subst hhi
    simp [execOp, hr.ev hx, hr.ev hk, Instr.sliceAt, Instr.slice, run_underlying ht, Instr.sliceBounds, he.size, hb k i j _ h1]
  · obtain ⟨k, hk⟩ := hlo
    obtain ⟨k', hk'⟩ := hhi
    simp [execOp, hr.ev hx, hr.ev hk, hr.ev hk', Instr.sliceAt, Instr.slice, run_underlying ht, Instr.sliceBounds, he.size, hb k i j _ h1, hb k' j cap _ h2]
theorem rr_slsub {t e : TypeId} {x z z' : Operand} {agg : Bool} {c i j len cap : Nat} {base : Option Addr} {k k' : IntKind} (ht : P.underlying t = some (.slice e)) (he : Ty P e agg c) (hx : ev fr x = some (.slice base len cap)) (hz : ev fr z = some (.int k (i : Int))) (hz' : ev fr z' = some (.int k' (j : Int))) (h1 : i ≤ j) (h2 : j ≤ cap) :
    RR P n W ⟨dst, .slice t x (some z) (some z') none, ty, pos, after, guard⟩ fr L (subV base cap c i j) := rr_slgen (lo := some z) (hi := some z') ht he hx ⟨k, hz⟩ ⟨k', hz'⟩ h1 h2
theorem rr_slfrom {t e : TypeId} {x z : Operand} {agg : Bool} {c i len cap : Nat} {base : Option Addr} {k : IntKind} (ht : P.underlying t = some (.slice e)) (he : Ty P e agg c) (hx : ev fr x = some (.slice base len cap)) (hz : ev fr z = some (.int k (i : Int))) (h1 : i ≤ len) (h2 : len ≤ cap) :
    RR P n W ⟨dst, .slice t x (some z) none none, ty, pos, after, guard⟩ fr L (subV base cap c i len) := rr_slgen (lo := some z) (hi := none) ht he hx ⟨k, hz⟩ rfl h1 h2
theorem rr_slupto {t e : TypeId} {x z : Operand} {agg : Bool} {c j len cap : Nat} {base : Option Addr} {k : IntKind} (ht : P.underlying t = some (.slice e)) (he : Ty P e agg c) (hx : ev fr x = some (.slice base len cap)) (hz : ev fr z = some (.int k (j : Int))) (h2 : j ≤ cap) :
    RR P n W ⟨dst, .slice t x none (some z) none, ty, pos, after, guard⟩ fr L (subV base cap c 0 j) := rr_slgen (lo := none) (hi := some z) ht he hx rfl ⟨k, hz⟩ (Nat.zero_le _) h2
theorem rr_min3 {t u s : TypeId} {x y z : Operand} {m m' m2 r : Int} (hx : ev fr x = some (.int .i64 m)) (hy : ev fr y = some (.int .i64 m')) (hz : ev fr z = some (.int .i64 m2)) (h : min m (min m' m2) = r) : RR P n W ⟨dst, .call { callee := .builtin .min, args := #[x, y, z], argTypes := #[t, u, s] }, ty, pos, after, guard⟩ fr L (.int .i64 r) := .mk fun a w hr _ => by
  subst h
  have h1 := hr.ev hx
  have h2 := hr.ev hy
  have h3 := hr.ev hz
  have e : ∀ a b : Int, (if b < a then b else a) = min a b := fun a b => by split <;> omega
  simp [BigFrame.execOp_builtin, BigFrame.builtin_min, h1, h2, h3, Builtin.min_, Builtin.min2, e, Int.min_assoc]
theorem rr_max3 {t u s : TypeId} {x y z : Operand} {m m' m2 r : Int} (hx : ev fr x = some (.int .i64 m)) (hy : ev fr y = some (.int .i64 m')) (hz : ev fr z = some (.int .i64 m2)) (h : max m (max m' m2) = r) : RR P n W ⟨dst, .call { callee := .builtin .max, args := #[x, y, z], argTypes := #[t, u, s] }, ty, pos, after, guard⟩ fr L (.int .i64 r) := .mk fun a w hr _ => by
  subst h
  have h1 := hr.ev hx
  have h2 := hr.ev hy
  have h3 := hr.ev hz
  have e : ∀ a b : Int, (if a < b then b else a) = max a b := fun a b => by split <;> omega
  simp [BigFrame.execOp_builtin, BigFrame.builtin_max, h1, h2, h3, Builtin.max_, Builtin.max2, e, Int.max_assoc]
/-- a part of a slice that can be read -/
theorem sl_sub {α : Type} {f : α → List Value} {c : Nat} (hc : ∀ a, (f a).length = c) {w : World} {base : Option Addr} {cap : Nat} {l : List α} (h : Sl w (.slice base l.length cap) l.length (l.flatMap f)) {i j : Nat} (h1 : i ≤ j) (h2 : j ≤ l.length) :
    Sl w (subV base cap c i j) ((l.drop i).take (j - i)).length (((l.drop i).take (j - i)).flatMap f) := by
  obtain ⟨b, cp, he, k1, k2, k3⟩ := h
  simp only [Value.slice.injEq, true_and] at he
  obtain ⟨rfl, rfl⟩ := he
  have hlen : ((l.drop i).take (j - i)).length = j - i := by simp; omega
  refine ⟨_, cap - i, by rw [hlen]; rfl, by rw [hlen]; omega, by omega, fun h0 => ?_⟩
  rw [hlen] at h0
  obtain ⟨b, off, rfl, hr⟩ := k3 (by omega)
  refine ⟨b, off + i * c, by rw [if_neg (by omega), Option.map_some, addr_add], fun q u hq => ?_⟩
  have e : l.flatMap f = (l.take i).flatMap f ++ ((l.drop i).take (j - i)).flatMap f ++ ((l.drop i).drop (j - i)).flatMap f := by
    rw [← List.flatMap_append, ← List.flatMap_append, List.append_assoc, List.take_append_drop, List.take_append_drop]
  have hl1 : ((l.take i).flatMap f).length = i * c := by rw [len_el hc, List.length_take, Nat.min_eq_left (by omega)]
  have := hr (i * c + q) u (by
    rw [e, List.append_assoc, List.getElem?_append_right (by omega), hl1, Nat.add_sub_cancel_left, List.getElem?_append_left (List.getElem?_eq_some_iff.1 hq).1]
    exact hq)
  rw [Nat.add_assoc]; exact this
/-- what an own slice is -/
theorem TL_rowv {i size m : Nat} {e : TypeId} {v : Value} {xs : List Value} (hi : L[i]? = some (rowO e size v m xs)) (h : ∀ base cap, v = .slice base m cap → m ≤ cap → cap ≤ 9223372036854775807 → TL P n W ops Q rest fr L) : TL P n W ops Q rest fr L := ⟨fun a w hr hm => by
  have h1 : w.ownsRow 0 e size v m xs := hm.get hi
  obtain ⟨base, cap, hv, hc1, hc2, _⟩ := Sl.of_own h1
  exact (h base cap hv hc1 (by unfold maxLen at hc2; omega)).go a w hr hm⟩
theorem T_rowv {c : Code} {i size m : Nat} {e : TypeId} {v : Value} {xs : List Value} (hi : L[i]? = some (rowO e size v m xs)) (h : ∀ base cap, v = .slice base m cap → m ≤ cap → cap ≤ 9223372036854775807 → T P n W c Q fr L) : T P n W c Q fr L := ⟨fun a w hr hm => by
  have h1 : w.ownsRow 0 e size v m xs := hm.get hi
  obtain ⟨base, cap, hv, hc1, hc2, _⟩ := Sl.of_own h1
  exact (h base cap hv hc1 (by unfold maxLen at hc2; omega)).go a w hr hm⟩
theorem T_slv {c : Code} {i size m : Nat} {e : TypeId} {v : Value} {xs : List Value} (hi : L[i]? = some (rowO e size v m xs)) (h : v.cells = #[v] → v.oneCell' = true → T P n W c Q fr L) : T P n W c Q fr L := ⟨fun a w hr hm => by
  have h1 : w.ownsRow 0 e size v m xs := hm.get hi
  obtain ⟨base, cap, hv, _⟩ := Sl.of_own h1
  exact (h (by rw [hv]; rfl) (by rw [hv]; rfl)).go a w hr hm⟩
/-- closures: what is captured, evaluated -/
def opsEv (fr : Fr) : List Operand → Option (List Value)
  | [] => some []
  | x :: r => match ev fr x, opsEv fr r with | some v, some l => some (v :: l) | _, _ => none
theorem opsEv_of {a : Act} (hr : Rep n a fr) : ∀ (l : List Operand) (vs : List Value), opsEv fr l = some vs → l.map a.eval = vs
  | [], vs, h => by simp only [opsEv, Option.some.injEq] at h; subst h; rfl
  | x :: r, vs, h => by
    simp only [opsEv] at h
    split at h
    · rename_i v l h1 h2
      simp only [Option.some.injEq] at h; subst h
      simp [hr.ev h1, opsEv_of hr r l h2]
    · cases h
theorem rr_func {fn : Fn} {first cap : Array Operand} {vs us : List Value} (h1 : opsEv fr first.toList = some vs) (h2 : opsEv fr cap.toList = some us) : RR P n W ⟨dst, .makeFunc fn first cap, ty, pos, after, guard⟩ fr L (.func fn vs.toArray us.toArray) := .mk fun a w hr _ => by
  have e1 : first.map a.eval = vs.toArray := by rw [← opsEv_of hr _ _ h1, ← Array.toList_map, Array.toArray_toList]
  have e2 : cap.map a.eval = us.toArray := by rw [← opsEv_of hr _ _ h2, ← Array.toList_map, Array.toArray_toList]
  simp only [execOp, e1, e2]
  rfl
end
end Go.Proofs.YtkcnoompimohnaaDoor.eng

/- MixW -/
namespace Go.Proofs.YtkcnoompimohnaaDoor.eng
open Go.RowKit kit mix
inductive Ord where
  | done
  | calm (i : Nat) (t : Ord)
  | one (i : Nat) (t : Ord)
  | two (i : Nat) (t : Ord) (j : Nat) (u : Ord)
  | three (i : Nat) (t : Ord) (j : Nat) (u : Ord) (k : Nat) (v : Ord)
def Ord.size : Ord → Nat
  | .done => 0
  | .calm _ t => t.size + 1
  | .one _ t => t.size + 1
  | .two _ t _ _ => t.size + 1
  | .three _ t _ _ _ _ => t.size + 1
section
variable {P : Program} {ops : Array Oper} {md : Region.Mode} {Q : Exit → Act → World → Prop} {U : World → Prop}
def wpO (P : Program) (ops : Array Oper) (Q : Exit → Act → World → Prop) (U : World → Prop) : Ord → Act → (World → Prop) → Prop
  | .calm i t, a, S => ∃ o v, ops[i]? = some o ∧ (if Region.wanted o (yielded ops a.tmps) then ∀ w, U w → calmAt P o a w v else v = undef) ∧ wpO P ops Q U t (a.put o.dst v) S
  | .one i t, a, S => ∃ o, ops[i]? = some o ∧ ∀ w, S w → wpList P ops (Exit.then (fun a' w' => ∃ S', Closed S' ∧ (∀ x, S' x → U x) ∧ S' w' ∧ wpO P ops Q U t a' S') Q) [o] a w
  | .two i t j u, a, S => (∃ o, ops[i]? = some o ∧ ∀ w, S w → wpList P ops (Exit.then (fun a' w' => ∃ S', Closed S' ∧ (∀ x, S' x → U x) ∧ S' w' ∧ wpO P ops Q U t a' S') Q) [o] a w) ∧
      (∃ o, ops[j]? = some o ∧ ∀ w, S w → wpList P ops (Exit.then (fun a' w' => ∃ S', Closed S' ∧ (∀ x, S' x → U x) ∧ S' w' ∧ wpO P ops Q U u a' S') Q) [o] a w)
  | .three i t j u k v, a, S => (∃ o, ops[i]? = some o ∧ ∀ w, S w → wpList P ops (Exit.then (fun a' w' => ∃ S', Closed S' ∧ (∀ x, S' x → U x) ∧ S' w' ∧ wpO P ops Q U t a' S') Q) [o] a w) ∧
      (∃ o, ops[j]? = some o ∧ ∀ w, S w → wpList P ops (Exit.then (fun a' w' => ∃ S', Closed S' ∧ (∀ x, S' x → U x) ∧ S' w' ∧ wpO P ops Q U u a' S') Q) [o] a w) ∧
      (∃ o, ops[k]? = some o ∧ ∀ w, S w → wpList P ops (Exit.then (fun a' w' => ∃ S', Closed S' ∧ (∀ x, S' x → U x) ∧ S' w' ∧ wpO P ops Q U v a' S') Q) [o] a w)
  | .done, a, S => ∀ w, S w → Q .normal a w
def orderO (md : Region.Mode) (ops : Array Oper) : Ord → Array Bool → Bool
  | .calm i t, listed => (Region.ready md ops listed).contains i && Region.free md ops listed i && orderO md ops t (listed.setIfInBounds i true)
  | .one i t, listed => decide (Region.ready md ops listed = [i]) && orderO md ops t (listed.setIfInBounds i true)
  | .two i t j u, listed => decide (Region.ready md ops listed = [i, j]) && Nat.beq t.size u.size && orderO md ops t (listed.setIfInBounds i true) && orderO md ops u (listed.setIfInBounds j true)
  | .three i t j u k v, listed => decide (Region.ready md ops listed = [i, j, k]) && Nat.beq t.size u.size && Nat.beq t.size v.size && orderO md ops t (listed.setIfInBounds i true) && orderO md ops u (listed.setIfInBounds j true) && orderO md ops v (listed.setIfInBounds k true)
  | .done, listed => decide (Region.ready md ops listed = [])
theorem wpAnyV_ord (hsel : Region.noSelect ops = true) (hQ : ∀ c a d v w, Q (.panic c) (Act.put a d v) w → Q (.panic c) a w) :
    ∀ (t : Ord) (listed : Array Bool) (a : Act) (S : World → Prop), Closed S → (∀ x, S x → U x) → orderO md ops t listed = true →
    wpO P ops Q U t a S → wpAnyV P md ops Q U t.size listed a S
  | .done, listed, a, S, _, _, ho, h => ⟨by simpa [orderO] using ho, h⟩
  | .calm i t, listed, a, S, hcl, hsu, ho, h => by
    simp only [orderO, Bool.and_eq_true] at ho
    obtain ⟨⟨hr, hf⟩, ho'⟩ := ho
    have hr' : i ∈ Region.ready md ops listed := by simpa using hr
    obtain ⟨o, v, h0, hy, hK⟩ := h
    have hy' : CalmIn P ops U o v a := by
      by_cases hw : Region.wanted o (yielded ops a.tmps) = true
      · rw [if_pos hw] at hy; exact .inl ⟨hw, hy⟩
      · rw [if_neg hw] at hy; exact .inr ⟨by simpa using hw, hy⟩
    exact wpAnyV_first h0 (Region.noSelect_spec hsel) (fun c a w => hQ c a o.dst v w) t.size listed a S hcl hsu (Region.free_spec h0 hf) hr' hy'
      (wpAnyV_ord hsel hQ t _ _ S hcl hsu ho' hK)
  | .one i t, listed, a, S, hcl, hsu, ho, h => by
    simp only [orderO, Bool.and_eq_true, decide_eq_true_eq] at ho
    obtain ⟨hr, ho'⟩ := ho
    obtain ⟨o, h0, h⟩ := h
    refine ⟨fun h' => (by rw [hr] at h'; cases h'), fun j hj w hw => ?_⟩
    obtain rfl : j = i := by rw [hr] at hj; simpa using hj
    refine wpOp_mono (fun a' w' ⟨S', hcl', hsu', hw', hK⟩ => ⟨S', hcl', hsu', hw', ?_⟩) (wpOp_of_list h0 (h w hw))
    exact wpAnyV_ord hsel hQ t _ _ S' hcl' hsu' ho' hK
  | .two i t j u, listed, a, S, hcl, hsu, ho, h => by
    simp only [orderO, Bool.and_eq_true, decide_eq_true_eq] at ho
    obtain ⟨⟨⟨hr, hs⟩, ho1⟩, ho2⟩ := ho
    obtain ⟨⟨o, h0, h⟩, ⟨o2, h02, h2⟩⟩ := h
    have hs := Nat.eq_of_beq_eq_true hs
    refine ⟨fun h' => (by rw [hr] at h'; cases h'), fun q hq w hw => ?_⟩
    rw [hr] at hq
    simp only [List.mem_cons, List.not_mem_nil, or_false] at hq
    rcases hq with rfl | rfl
    · refine wpOp_mono (fun a' w' ⟨S', hcl', hsu', hw', hK⟩ => ⟨S', hcl', hsu', hw', ?_⟩) (wpOp_of_list h0 (h w hw))
      exact wpAnyV_ord hsel hQ t _ _ S' hcl' hsu' ho1 hK
    · refine wpOp_mono (fun a' w' ⟨S', hcl', hsu', hw', hK⟩ => ⟨S', hcl', hsu', hw', ?_⟩) (wpOp_of_list h02 (h2 w hw))
      rw [hs]
      exact wpAnyV_ord hsel hQ u _ _ S' hcl' hsu' ho2 hK
  | .three i t j u k v, listed, a, S, hcl, hsu, ho, h => by
    simp only [orderO, Bool.and_eq_true, decide_eq_true_eq] at ho
    obtain ⟨⟨⟨⟨⟨hr, hs⟩, hs3⟩, ho1⟩, ho2⟩, ho3⟩ := ho
    obtain ⟨⟨o, h0, h⟩, ⟨o2, h02, h2⟩, ⟨o3, h03, h3⟩⟩ := h
    have hs := Nat.eq_of_beq_eq_true hs
    have hs3 := Nat.eq_of_beq_eq_true hs3
    refine ⟨fun h' => (by rw [hr] at h'; cases h'), fun q hq w hw => ?_⟩
    rw [hr] at hq
    simp only [List.mem_cons, List.not_mem_nil, or_false] at hq
    rcases hq with rfl | rfl | rfl
    · refine wpOp_mono (fun a' w' ⟨S', hcl', hsu', hw', hK⟩ => ⟨S', hcl', hsu', hw', ?_⟩) (wpOp_of_list h0 (h w hw))
      exact wpAnyV_ord hsel hQ t _ _ S' hcl' hsu' ho1 hK
    · refine wpOp_mono (fun a' w' ⟨S', hcl', hsu', hw', hK⟩ => ⟨S', hcl', hsu', hw', ?_⟩) (wpOp_of_list h02 (h2 w hw))
      rw [hs]
      exact wpAnyV_ord hsel hQ u _ _ S' hcl' hsu' ho2 hK
    · refine wpOp_mono (fun a' w' ⟨S', hcl', hsu', hw', hK⟩ => ⟨S', hcl', hsu', hw', ?_⟩) (wpOp_of_list h03 (h3 w hw))
      rw [hs3]
      exact wpAnyV_ord hsel hQ v _ _ S' hcl' hsu' ho3 hK
end
structure TW (P : Program) (n : Nat) (W : Base) (ops : Array Oper) (Q : Exit → Act → World → Prop) (L0 : List Own) (t : Ord) (fr : Fr) (L : List Own) : Prop where
  go : ∀ a, Rep n a fr → wpO P ops Q (Mem W L0) t a (Mem W L)
section
variable {P : Program} {n : Nat} {W : Base} {Q : Exit → Act → World → Prop} {fr : Fr} {L L0 : List Own} {ops : Array Oper} {o : Oper} {t u : Ord} {i j : Nat} {v : Value} {d : Nat}
def ordB (l : List Oper) (t : Ord) : Bool := Nat.beq t.size l.length && Region.noSelect l.toArray && orderO .any l.toArray t (Array.replicate l.toArray.size false)
theorem T_ord {id : Nat} {l : List Oper} (L0 : List Own) (t : Ord) (hsub : ∀ w, Mem W L w → Mem W L0 w) (hm : P.follows .mixedOrders = true) (hB : ordB l t = true)
    (hQ : ∀ c a d v w, Q (.panic c) (Act.put a d v) w → Q (.panic c) a w)
    (h : TW P n W l.toArray Q L0 t fr L) : T P n W (.region id l.toArray true) Q fr L := ⟨fun a w hr hmm => by
  simp only [ordB, Bool.and_eq_true] at hB
  obtain ⟨⟨h1, h2⟩, h3⟩ := hB
  have hlen := Nat.eq_of_beq_eq_true h1
  refine wp_region_any hm ?_
  have hsz : l.toArray.size = t.size := by rw [hlen]; simp
  have := wpAny_of_V (U := Mem W L0) t.size (Array.replicate l.toArray.size false) a (Mem W L) w.drew hmm.drew
    (wpAnyV_ord h2 hQ t _ a (Mem W L) (closed_mem W L) hsub h3 (h.go a hr))
  rw [← hsz] at this
  exact this⟩
theorem TW_val (ho : ops[i]? = some o) (hr : RR P n W o fr L0 v) (hg : o.guard = none) (hd : o.dst = some d) (hn : Nat.blt d n = true) (h : TW P n W ops Q L0 t ((d, v) :: fr) L) : TW P n W ops Q L0 (.calm i t) fr L := ⟨fun a hrep =>
  ⟨o, v, ho, by rw [if_pos (wanted_none hg)]; intro w hw; unfold calmAt; rw [hr.go a w hrep hw]; exact ⟨rfl, Gr.refl _⟩, by rw [hd]; exact h.go _ (hrep.put hn v)⟩⟩
theorem TW_gval {q e : Nat} {b : Bool} (ho : ops[i]? = some o) (hr : RR P n W o fr L0 v) (hg : o.guard = some (q, b)) (hj : (ops[q]?).bind (·.dst) = some e) (hl : look fr e = some (.bool b)) (hd : o.dst = some d) (hn : Nat.blt d n = true) (h : TW P n W ops Q L0 t ((d, v) :: fr) L) : TW P n W ops Q L0 (.calm i t) fr L := ⟨fun a hrep =>
  ⟨o, v, ho, by rw [if_pos (wanted_yes hrep hg hj hl)]; intro w hw; unfold calmAt; rw [hr.go a w hrep hw]; exact ⟨rfl, Gr.refl _⟩, by rw [hd]; exact h.go _ (hrep.put hn v)⟩⟩
theorem TW_skip {q e : Nat} {b : Bool} {x : Value} (ho : ops[i]? = some o) (hg : o.guard = some (q, b)) (hj : (ops[q]?).bind (·.dst) = some e) (hl : look fr e = some x) (hu : notB b x = true) (hd : o.dst = some d) (hn : Nat.blt d n = true) (h : TW P n W ops Q L0 t ((d, undef) :: fr) L) : TW P n W ops Q L0 (.calm i t) fr L := ⟨fun a hrep =>
  ⟨o, undef, ho, by rw [wanted_no hrep hg hj hl hu]; rfl, by rw [hd]; exact h.go _ (hrep.put hn undef)⟩⟩
theorem TW_call {f : FuncId} {args : Array Value} (ho : ops[i]? = some o) (he : ∀ a w, Rep n a fr → (execOp a.eval o).run P w = .ok (.enter f args) w) (hc : ∀ w, Mem W L0 w → Calls P f args w (Meets (ret v) w)) (hg : o.guard = none) (hd : o.dst = some d) (hn : Nat.blt d n = true)
    (h : TW P n W ops Q L0 t ((d, v) :: fr) L) : TW P n W ops Q L0 (.calm i t) fr L := ⟨fun a hrep =>
  ⟨o, v, ho, by rw [if_pos (wanted_none hg)]; intro w hw; unfold calmAt; rw [he a w hrep]; exact ⟨Gr.refl _, (hc w hw).mono fun _ _ h => of_meets h⟩, by rw [hd]; exact h.go _ (hrep.put hn v)⟩⟩
theorem TW_gcall {f : FuncId} {args : Array Value} {q e : Nat} {b : Bool} (ho : ops[i]? = some o) (he : ∀ a w, Rep n a fr → (execOp a.eval o).run P w = .ok (.enter f args) w) (hc : ∀ w, Mem W L0 w → Calls P f args w (Meets (ret v) w)) (hg : o.guard = some (q, b)) (hj : (ops[q]?).bind (·.dst) = some e) (hl : look fr e = some (.bool b)) (hd : o.dst = some d) (hn : Nat.blt d n = true)
    (h : TW P n W ops Q L0 t ((d, v) :: fr) L) : TW P n W ops Q L0 (.calm i t) fr L := ⟨fun a hrep =>
  ⟨o, v, ho, by rw [if_pos (wanted_yes hrep hg hj hl)]; intro w hw; unfold calmAt; rw [he a w hrep]; exact ⟨Gr.refl _, (hc w hw).mono fun _ _ h => of_meets h⟩, by rw [hd]; exact h.go _ (hrep.put hn v)⟩⟩
abbrev after (P : Program) (W : Base) (ops : Array Oper) (Q : Exit → Act → World → Prop) (L0 : List Own) (t : Ord) : Exit → Act → World → Prop := Exit.then (fun a' w' => ∃ S', Closed S' ∧ (∀ x, S' x → Mem W L0 x) ∧ S' w' ∧ wpO P ops Q (Mem W L0) t a' S') Q
theorem TW_one (ho : ops[i]? = some o) (h : TL P n W ops (after P W ops Q L0 t) [o] fr L) : TW P n W ops Q L0 (.one i t) fr L := ⟨fun a hrep => ⟨o, ho, fun w hw => h.go a w hrep hw⟩⟩
theorem TW_two {o2 : Oper} (ho : ops[i]? = some o) (ho2 : ops[j]? = some o2) (h : TL P n W ops (after P W ops Q L0 t) [o] fr L) (h2 : TL P n W ops (after P W ops Q L0 u) [o2] fr L) : TW P n W ops Q L0 (.two i t j u) fr L :=
  ⟨fun a hrep => ⟨⟨o, ho, fun w hw => h.go a w hrep hw⟩, ⟨o2, ho2, fun w hw => h2.go a w hrep hw⟩⟩⟩
theorem TW_three {o2 o3 : Oper} {k : Nat} {u2 : Ord} (ho : ops[i]? = some o) (ho2 : ops[j]? = some o2) (ho3 : ops[k]? = some o3) (h : TL P n W ops (after P W ops Q L0 t) [o] fr L) (h2 : TL P n W ops (after P W ops Q L0 u) [o2] fr L) (h3 : TL P n W ops (after P W ops Q L0 u2) [o3] fr L) : TW P n W ops Q L0 (.three i t j u k u2) fr L :=
  ⟨fun a hrep => ⟨⟨o, ho, fun w hw => h.go a w hrep hw⟩, ⟨o2, ho2, fun w hw => h2.go a w hrep hw⟩, ⟨o3, ho3, fun w hw => h3.go a w hrep hw⟩⟩⟩
theorem TW_on {L' : List Own} {fr' : Fr} (hsub : ∀ w, Mem W L' w → Mem W L0 w) (h : TW P n W ops Q L0 t fr' L') : TL P n W ops (after P W ops Q L0 t) [] fr' L' :=
  TL_nil ⟨fun a w hr hm => ⟨Mem W L', closed_mem _ _, hsub, hm, h.go a hr⟩⟩
theorem TW_done (h : E n W .normal Q fr L) : TW P n W ops Q L0 .done fr L := ⟨fun a hr w hw => h.go a w hr hw⟩
/-- a meeting point ahead of what comes next -/
theorem T_midq {x y : Code} {ι : Type} (I : ι → Prop) (F : ι → Fr) (M : ι → List Own)
    (hx : T P n W x (Exit.then (Mid n W I F M) Q) fr L) (hy : ∀ i, I i → T P n W y Q (F i) (M i)) : T P n W x (Exit.then (y.wp P Q) Q) fr L := .mk fun a w hr hm =>
  wp_mono (hx.go a w hr hm) fun e a w h => by
    cases e with
    | normal => obtain ⟨i, h1, h2, h3⟩ := h; exact (hy i h1).go a w h2 h3
    | _ => exact h
/-- a condition that is a comparison -/
theorem T_condD {c : Operand} {x y : Code} {p : Prop} {inst : Decidable p} (hc : ev fr c = some (.bool (decide p))) (ht : p → T P n W x Q fr L) (hf : ¬ p → T P n W y Q fr L) : T P n W (.cond c x y) Q fr L := by
  by_cases h : p
  · exact T_condT (by rw [hc, decide_eq_true h]) (ht h)
  · exact T_condF (by rw [hc, decide_eq_false h]) (hf h)
/-- a guarded operation whose guard is met -/
theorem TL_met {rest : List Oper} {q e : Nat} {b : Bool} (hg : o.guard = some (q, b)) (hj : (ops[q]?).bind (·.dst) = some e) (hl : look fr e = some (.bool b)) (h : TL P n W ops Q ({ o with guard := none } :: rest) fr L) : TL P n W ops Q (o :: rest) fr L := .mk fun a w hr hm => by
  have h1 := h.go a w hr hm
  unfold wpList at h1 ⊢
  rw [if_pos (wanted_none rfl)] at h1
  rw [if_pos (wanted_yes hr hg hj hl)]
  exact h1
theorem TW_valg (ho : ops[i]? = some o) (hg : o.guard = none) (hr : RR P n W o fr L0 v) (hd : o.dst = some d) (hn : Nat.blt d n = true) (h : TW P n W ops Q L0 t ((d, v) :: fr) L) : TW P n W ops Q L0 (.calm i t) fr L := TW_val ho hr hg hd hn h
theorem TW_gvalg {q e : Nat} {b : Bool} (ho : ops[i]? = some o) (hg : o.guard = some (q, b)) (hj : (ops[q]?).bind (·.dst) = some e) (hl : look fr e = some (.bool b)) (hr : RR P n W o fr L0 v) (hd : o.dst = some d) (hn : Nat.blt d n = true) (h : TW P n W ops Q L0 t ((d, v) :: fr) L) : TW P n W ops Q L0 (.calm i t) fr L := TW_gval ho hr hg hj hl hd hn h
/-- a calm operation that is wanted -/
structure TN (P : Program) (n : Nat) (W : Base) (ops : Array Oper) (Q : Exit → Act → World → Prop) (L0 : List Own) (o : Oper) (t : Ord) (fr : Fr) (L : List Own) : Prop where
  go : ∀ a, Rep n a fr → ∃ v, (∀ w, Mem W L0 w → calmAt P o a w v) ∧ wpO P ops Q (Mem W L0) t (a.put o.dst v) (Mem W L)
theorem TW_plain (ho : ops[i]? = some o) (hg : o.guard = none) (h : TN P n W ops Q L0 o t fr L) : TW P n W ops Q L0 (.calm i t) fr L := ⟨fun a hrep => by
  obtain ⟨v, h1, h2⟩ := h.go a hrep
  exact ⟨o, v, ho, by rw [if_pos (wanted_none hg)]; exact h1, h2⟩⟩
theorem TW_gmet {q e : Nat} {b : Bool} (ho : ops[i]? = some o) (hg : o.guard = some (q, b)) (hj : (ops[q]?).bind (·.dst) = some e) (hl : look fr e = some (.bool b)) (h : TN P n W ops Q L0 o t fr L) : TW P n W ops Q L0 (.calm i t) fr L := ⟨fun a hrep => by
  obtain ⟨v, h1, h2⟩ := h.go a hrep
  exact ⟨o, v, ho, by rw [if_pos (wanted_yes hrep hg hj hl)]; exact h1, h2⟩⟩
theorem TN_val (hr : RR P n W o fr L0 v) (hd : o.dst = some d) (hn : Nat.blt d n = true) (h : TW P n W ops Q L0 t ((d, v) :: fr) L) : TN P n W ops Q L0 o t fr L := ⟨fun a hrep =>
  ⟨v, fun w hw => by unfold calmAt; rw [hr.go a w hrep hw]; exact ⟨rfl, Gr.refl _⟩, by rw [hd]; exact h.go _ (hrep.put hn v)⟩⟩
theorem QW (hr : RR P n W o fr L0 v) (h : TW P n W ops Q L0 t ((d, v) :: fr) L) (hd : o.dst = some d := by exact rfl) (hn : Nat.blt d n = true := by exact rfl) : TN P n W ops Q L0 o t fr L := TN_val hr hd hn h
end
end Go.Proofs.YtkcnoompimohnaaDoor.eng

/- Room -/
namespace Go.Proofs.YtkcnoompimohnaaDoor.eng
open Go.RowKit kit mix
section
variable {P : Program} {n : Nat} {W : Base} {fr : Fr} {L : List Own} {Q : Exit → Act → World → Prop} {ops : Array Oper} {rest : List Oper} {d : Nat} {dst : Option Tmp} {ty : TypeId} {pos : String} {after : Array Edge} {guard : Option (Nat × Bool)}
theorem rr_cap {t e : TypeId} {x : Operand} {p : Option Addr} {m cap : Nat} (ht : P.underlying t = some (.slice e)) (hx : ev fr x = some (.slice p m cap)) : RR P n W ⟨dst, .call { callee := .builtin .cap, args := #[x], argTypes := #[t] }, ty, pos, after, guard⟩ fr L (.int .i64 cap) := .mk fun a w hr _ => by
  have hx' := hr.ev hx
  simp [BigFrame.execOp_builtin, BigFrame.builtin_cap, Builtin.cap_, hx', run_underlying ht, goInt]
/-- 'make([]T, m, cap)': a block that is known whole -/
theorem TL_makeB {t e : TypeId} {x y : Operand} {c bytes m cap : Nat} {k k' : IntKind} {zs : Array Value} [hel : ElC P t e c bytes] [hz0 : ZeroC P e zs] (hx : ev fr x = some (.int k (m : Int))) (hy : ev fr y = some (.int k' (cap : Int))) (hmc : m ≤ cap) (hb : bytes * cap ≤ 281474976710656) (h63 : cap ≤ 9223372036854775807) (hn : Nat.blt d n = true)
    (h : ∀ g, TL P n W ops Q rest ((d, .slice (some ⟨g, 0, none⟩) m cap) :: fr) (L ++ [blkO g (madeCells zs (cap * c)) e])) : TL P n W ops Q (⟨some d, .makeSlice t x y, ty, pos, after, none⟩ :: rest) fr L := TL_any rfl fun a w hr hm K hK => by
  obtain ⟨i, z, ht, hi, hz, hc, hby, hzc, h0⟩ := hel.el.ex
  obtain ⟨i2, z2, hi2, hz2, hz3⟩ := ZeroC.ex (P := P) (t := e)
  rw [hi] at hi2
  obtain rfl : i = i2 := Option.some.inj hi2
  rw [hz] at hz2
  obtain rfl : z = z2 := Option.some.inj hz2
  have hb2 : (i.bytes : Int) * (cap : Int) ≤ 281474976710656 := by
    rw [hby, ← Int.natCast_mul]; omega
  have hrun := run_make (P := P) w t e i z ht hi hz k k' (m : Int) (cap : Int) (by omega) (by omega) hb2 (by omega)
  rw [Int.toNat_natCast, Int.toNat_natCast, hc, hz3] at hrun
  have e' : (execOp a.eval ⟨some d, .makeSlice t x y, ty, pos, after, none⟩).run P w = .ok (.value (.slice (some ⟨w.heap.size, 0, none⟩) m cap)) (w.alloc (.cells (madeCells zs (cap * c)) e)) := by
    simp only [execOp, hr.ev hx, hr.ev hy, Sem.run_bind, hrun, Result.andThen_ok, Sem.run_pure]
  unfold Oper.wp; rw [e']
  exact hK _ _ ((h w.heap.size).go _ _ (hr.put hn _) (hm.append (gr_alloc w _) (Owns.one (heap_alloc_new w _) fun k hk => by simp only [blkO, Option.some.injEq] at hk; omega)))
/-- the same, as an own slice of zeros -/
theorem Mem.toRowN {w : World} {i g m cap size : Nat} {cs : Array Value} {e : TypeId} (h : Mem W L w) (hi : L[i]? = some (blkO g cs e)) (hc : cs.size = cap * size) (hmc : m ≤ cap) (hcap : cap ≤ 9223372036854775807) : Mem W (L.set i (rowO e size (.slice (some ⟨g, 0, none⟩) m cap) m (cs.toList.take (m * size)))) w :=
  h.turn hi ⟨rfl, rfl, rfl, Nat.le_refl _, fun _ _ _ => rfl⟩ ⟨by rw [List.length_take, Array.length_toList, hc, Nat.min_eq_left (Nat.mul_le_mul_right _ hmc)], .inr ⟨g, cap, cs, rfl, Nat.zero_le _, h.get hi, hmc, by unfold maxLen; omega, hc, rfl⟩⟩ fun k hk => .inl hk
theorem TL_toRowN {i g m cap : Nat} {cs : Array Value} {e : TypeId} (size : Nat) (hi : L[i]? = some (blkO g cs e)) (hc : cs.size = cap * size) (hmc : m ≤ cap) (hcap : cap ≤ 9223372036854775807) (h : TL P n W ops Q rest fr (L.set i (rowO e size (.slice (some ⟨g, 0, none⟩) m cap) m (cs.toList.take (m * size))))) : TL P n W ops Q rest fr L :=
  ⟨fun a w hr hmm => h.go a w hr (hmm.toRowN hi hc hmc hcap)⟩
theorem T_toRowN {c : Code} {i g m cap : Nat} {cs : Array Value} {e : TypeId} (size : Nat) (hi : L[i]? = some (blkO g cs e)) (hc : cs.size = cap * size) (hmc : m ≤ cap) (hcap : cap ≤ 9223372036854775807) (h : T P n W c Q fr (L.set i (rowO e size (.slice (some ⟨g, 0, none⟩) m cap) m (cs.toList.take (m * size))))) : T P n W c Q fr L :=
  ⟨fun a w hr hmm => h.go a w hr (hmm.toRowN hi hc hmc hcap)⟩
/-- an own slice's block, seen whole -/
theorem Mem.openRow {w : World} {i m size : Nat} {v : Value} {xs : List Value} {e : TypeId} (h : Mem W L w) (hi : L[i]? = some (rowO e size v m xs)) : (v = .slice none 0 0 ∧ m = 0) ∨ ∃ g cap cs, v = .slice (some ⟨g, 0, none⟩) m cap ∧ m ≤ cap ∧ cap ≤ 9223372036854775807 ∧ cs.size = cap * size ∧ cs.toList.take (m * size) = xs ∧ Mem W (L.set i (blkO g cs e)) w := by
  have h1 : w.ownsRow 0 e size v m xs := h.get hi
  rcases h1.2 with ⟨hv, h0⟩ | ⟨g, cap, cs, hv, hb, hg, hmc, hcm, hcs, htk⟩
  · exact .inl ⟨hv, h0⟩
  · refine .inr ⟨g, cap, cs, hv, hmc, by unfold maxLen at hcm; omega, hcs, htk, ?_⟩
    refine h.turn hi ⟨rfl, rfl, rfl, Nat.le_refl _, fun _ _ _ => rfl⟩ hg fun k hk => .inl ?_
    simp only [blkO, Option.some.injEq] at hk
    subst hk
    show v.ownBlock = some g
    rw [hv]; rfl
theorem TL_openRow {i m size : Nat} {v : Value} {xs : List Value} {e : TypeId} (hi : L[i]? = some (rowO e size v m xs)) (h0 : v = .slice none 0 0 → m = 0 → TL P n W ops Q rest fr L)
    (h : ∀ g cap cs, v = .slice (some ⟨g, 0, none⟩) m cap → m ≤ cap → cap ≤ 9223372036854775807 → cs.size = cap * size → cs.toList.take (m * size) = xs → TL P n W ops Q rest fr (L.set i (blkO g cs e))) : TL P n W ops Q rest fr L := ⟨fun a w hr hm => by
  rcases hm.openRow hi with ⟨a1, a2⟩ | ⟨g, cap, cs, a1, a2, a3, a4, a5, a6⟩
  · exact (h0 a1 a2).go a w hr hm
  · exact (h g cap cs a1 a2 a3 a4 a5).go a w hr a6⟩
theorem T_openRow {c : Code} {i m size : Nat} {v : Value} {xs : List Value} {e : TypeId} (hi : L[i]? = some (rowO e size v m xs)) (h0 : v = .slice none 0 0 → m = 0 → T P n W c Q fr L)
    (h : ∀ g cap cs, v = .slice (some ⟨g, 0, none⟩) m cap → m ≤ cap → cap ≤ 9223372036854775807 → cs.size = cap * size → cs.toList.take (m * size) = xs → T P n W c Q fr (L.set i (blkO g cs e))) : T P n W c Q fr L := ⟨fun a w hr hm => by
  rcases hm.openRow hi with ⟨a1, a2⟩ | ⟨g, cap, cs, a1, a2, a3, a4, a5, a6⟩
  · exact (h0 a1 a2).go a w hr hm
  · exact (h g cap cs a1 a2 a3 a4 a5).go a w hr a6⟩
/-- 'append(s, x...)' where there is room: into the block -/
theorem TL_appB {t e : TypeId} {s x : Operand} {i g size bytes m k c cap : Nat} {cs cs' : Array Value} {ys : List Value} {a : Addr} [hel : ElC P t e size bytes] (hi : L[i]? = some (blkO g cs e)) (hs : ev fr s = some (.slice (some ⟨g, 0, none⟩) m cap)) (hx : ev fr x = some (.slice (some a) k c))
    (hy : ∀ w, Mem W L w → ∀ j u, ys[j]? = some u → w.cell? (a.add j) = some u) (hl : ys.length = k * size) (h1 : ∀ u ∈ ys, u.oneCell' = true) (hroom : m + k ≤ cap) (hfit : m * size + ys.length ≤ cs.size) (hcs : cs' = (cs.toList.take (m * size) ++ ys ++ cs.toList.drop (m * size + ys.length)).toArray) (hn : Nat.blt d n = true)
    (h : TL P n W ops Q rest ((d, .slice (some ⟨g, 0, none⟩) (m + k) cap) :: fr) (L.set i (blkO g cs' e))) :
    TL P n W ops Q (⟨some d, .call { callee := .builtin .append, args := #[s, x], argTypes := #[t, t] }, ty, pos, after, none⟩ :: rest) fr L := TL_any rfl fun act w hr hm K hK => by
  obtain ⟨inf, z, ht, hinf, hz, hsize, hby, hzs, hsz⟩ := hel.el.ex
  subst hsize
  have hg : w.heap[g]? = some (.cells cs e (0, 0)) := hm.get hi
  have hrun := run_append_room (P := P) w t ty e inf ht hinf g m cap cs hg a k c ys hl (hy w hm) h1 hroom hfit
  rw [← hcs] at hrun
  have e' : (execOp act.eval ⟨some d, .call { callee := .builtin .append, args := #[s, x], argTypes := #[t, t] }, ty, pos, after, none⟩).run P w = .ok (.value (.slice (some ⟨g, 0, none⟩) (m + k) cap)) (w.setRow g cs') := by
    simp only [BigFrame.execOp_builtin, BigFrame.builtin_append, List.map_toArray, List.map_cons, List.map_nil, hr.ev hs, hr.ev hx, Sem.run_bind, hrun, Result.andThen_ok, Sem.run_pure]
  unfold Oper.wp; rw [e']
  exact hK _ _ (h.go _ _ (hr.put hn _) (hm.turn hi ⟨rfl, rfl, rfl, by simp, fun k _ hk => setRow_other w g k _ (fun e => hk (by subst e; rfl))⟩ (setRow_heap w g cs _ e _ hg) fun k hk => .inl hk))
/-- the same of nothing (nil) -/
theorem TL_appB0 {t e : TypeId} {s x : Operand} {i g size bytes m c cap : Nat} {cs : Array Value} [hel : ElC P t e size bytes] (hi : L[i]? = some (blkO g cs e)) (hs : ev fr s = some (.slice (some ⟨g, 0, none⟩) m cap)) (hx : ev fr x = some (.slice none 0 c)) (hm0 : m ≤ cap) (hn : Nat.blt d n = true)
    (h : TL P n W ops Q rest ((d, .slice (some ⟨g, 0, none⟩) m cap) :: fr) L) :
    TL P n W ops Q (⟨some d, .call { callee := .builtin .append, args := #[s, x], argTypes := #[t, t] }, ty, pos, after, none⟩ :: rest) fr L := TL_any rfl fun act w hr hm K hK => by
  obtain ⟨inf, z, ht, hinf, hz, hsize, hby, hzs, hsz⟩ := hel.el.ex
  have e' : (execOp act.eval ⟨some d, .call { callee := .builtin .append, args := #[s, x], argTypes := #[t, t] }, ty, pos, after, none⟩).run P w = .ok (.value (.slice (some ⟨g, 0, none⟩) m cap)) w := by
    simp [BigFrame.execOp_builtin, BigFrame.builtin_append, hr.ev hs, hr.ev hx, Builtin.append_, run_underlying ht, sizeOf, typeInfo, hinf, Builtin.lenOf, Builtin.firstCells, loadCells, loadCellsFrom, hm0, storeCells]
  unfold Oper.wp; rw [e']
  exact hK _ _ (h.go _ _ (hr.put hn _) hm)
/-- whatever slice that can be read -/
theorem TL_appBs {t e : TypeId} {s x : Operand} {i g size bytes m k cap : Nat} {v2 : Value} {cs cs' : Array Value} {ys : List Value} [hel : ElC P t e size bytes] (hi : L[i]? = some (blkO g cs e)) (hs : ev fr s = some (.slice (some ⟨g, 0, none⟩) m cap)) (hx : ev fr x = some v2) (hx2 : SlL W L v2 k ys)
    (hl : ys.length = k * size) (h1 : ∀ u ∈ ys, u.oneCell' = true) (hroom : m + k ≤ cap) (hfit : m * size + ys.length ≤ cs.size) (hcs : cs' = (cs.toList.take (m * size) ++ ys ++ cs.toList.drop (m * size + ys.length)).toArray) (hn : Nat.blt d n = true)
    (h : TL P n W ops Q rest ((d, .slice (some ⟨g, 0, none⟩) (m + k) cap) :: fr) (L.set i (blkO g cs' e))) :
    TL P n W ops Q (⟨some d, .call { callee := .builtin .append, args := #[s, x], argTypes := #[t, t] }, ty, pos, after, none⟩ :: rest) fr L := ⟨fun act w hr hm => by
  obtain ⟨base, c, rfl, hc1, hc2, hrd⟩ := hx2 w hm
  cases base with
  | none =>
    have hk0 : k = 0 := by
      rcases Nat.eq_zero_or_pos k with h | h
      · exact h
      · obtain ⟨b, off, h, _⟩ := hrd h; cases h
    subst hk0
    have hy : ys = [] := List.eq_nil_of_length_eq_zero (by rw [hl]; simp)
    subst hy
    have e0 : cs' = cs := by rw [hcs]; simp
    subst e0
    have hset : L.set i (blkO g cs' e) = L := by
      apply List.ext_getElem?
      intro q
      by_cases hq : i = q
      · subst hq
        rw [List.getElem?_set_self (List.getElem?_eq_some_iff.1 hi).1, hi]
      · rw [List.getElem?_set_ne hq]
    rw [hset] at h
    exact (TL_appB0 hi hs hx (by omega) hn h).go act w hr hm
  | some p =>
    refine (TL_appB (c := c) hi hs hx (fun w' hm' => ?_) hl h1 hroom hfit hcs hn h).go act w hr hm
    intro j u hj
    obtain ⟨base, c', he, _, _, hrd'⟩ := hx2 w' hm'
    simp only [Value.slice.injEq, true_and] at he
    obtain ⟨he, _⟩ := he
    have hk : 0 < k := by
      rcases Nat.eq_zero_or_pos k with h | h
      · subst h
        have := (List.getElem?_eq_some_iff.1 hj).1
        rw [hl] at this; simp at this
      · exact h
    obtain ⟨b, off, hb, hr'⟩ := hrd' hk
    rw [← he] at hb
    simp only [Option.some.injEq] at hb
    subst hb
    rw [addr_add]; exact hr' j u hj⟩
/-- a slice over a block that is known whole -/
theorem sl_blk {i g m cap : Nat} {cs : Array Value} {T : TypeId} {xs : List Value} (hi : L[i]? = some (blkO g cs T)) (hx : ∀ (j : Nat) (u : Value), xs[j]? = some u → cs[j]? = some u) (hmc : m ≤ cap) (hcap : cap ≤ 9223372036854775807) : SlL W L (.slice (some ⟨g, 0, none⟩) m cap) m xs := fun w hm =>
  ⟨_, cap, rfl, hmc, by unfold maxLen; omega, fun _ => ⟨g, 0, rfl, fun j u hj => by
    rw [Nat.zero_add]; exact at_blk hi (hx j u hj) w hm⟩⟩
end
theorem madeC {z : Array Value} {k m : Nat} (h : z.size = k) (h0 : 0 < k) : madeCells z (m * k) = ((List.replicate m z.toList).flatten).toArray := by
  subst h
  apply Array.ext_getElem?
  intro j
  unfold madeCells
  by_cases hj : j < m * z.size
  · have h2 : j / z.size < m := (Nat.div_lt_iff_lt_mul h0).2 hj
    have h3 := Nat.mod_lt j h0
    have key : ∀ (m j : Nat), j < m * z.size → ((List.replicate m z.toList).flatten)[j]? = z.toList[j % z.size]? := by
      intro m
      induction m with
      | zero => intro j hj; simp at hj
      | succ m ih =>
        intro j hj
        rw [List.replicate_succ, List.flatten_cons]
        by_cases hc : j < z.size
        · rw [List.getElem?_append_left (by simpa using hc), Nat.mod_eq_of_lt hc]
        · rw [List.getElem?_append_right (by simp; omega)]
          simp only [Array.length_toList]
          rw [ih (j - z.size) (by rw [Nat.succ_mul] at hj; omega)]
          congr 1
          exact (Nat.mod_eq_sub_mod (by omega)).symm
    simp only [List.getElem?_toArray, key m j hj]
    simp [hj, h3]
  · have : ((List.replicate m z.toList).flatten).length = m * z.size := by simp
    rw [Array.getElem?_eq_none (by simp; omega), List.getElem?_toArray, List.getElem?_eq_none (by omega)]
/-! ### literals of structs -/
theorem foldl_set : ∀ (xs : List Value) (acc : Array Value) (off k : Nat), off + k + xs.length ≤ acc.size → (xs.toArray.zipIdx k).foldl (fun cs (x : Value × Nat) => cs.setIfInBounds (off + x.2) x.1) acc = (acc.toList.take (off + k) ++ xs ++ acc.toList.drop (off + k + xs.length)).toArray
  | [], acc, off, k, _ => by
    have e0 : (([] : List Value).toArray.zipIdx k) = #[] := by apply Array.ext'; simp
    rw [e0]; simp
  | x :: xs, acc, off, k, h => by
    simp only [List.length_cons] at h
    have e : (x :: xs).toArray.zipIdx k = #[(x, k)] ++ xs.toArray.zipIdx (k + 1) := by
      apply Array.ext'
      simp [List.zipIdx_cons]
    rw [e, Array.foldl_append]
    have e2 : (#[(x, k)] : Array (Value × Nat)).foldl (fun cs (x : Value × Nat) => cs.setIfInBounds (off + x.2) x.1) acc = acc.setIfInBounds (off + k) x := by simp
    rw [e2, foldl_set xs _ off (k + 1) (by simp; omega)]
    congr 1
    have hA : (acc.toList.take (off + k)).length = off + k := by simp; omega
    have hA1 : (acc.toList.take (off + k) ++ [x]).length = off + k + 1 := by rw [List.length_append, hA]; rfl
    have e3 : acc.toList.set (off + k) x = (acc.toList.take (off + k) ++ [x]) ++ acc.toList.drop (off + k + 1) := by
      rw [List.set_eq_take_append_cons_drop, if_pos (by simp; omega)]; simp
    simp only [Array.toList_setIfInBounds, List.length_cons]
    rw [e3, show off + (k + 1) = off + k + 1 by omega, List.take_left' hA1, ← List.drop_drop, List.drop_left' hA1, List.drop_drop]
    simp only [List.append_assoc, List.cons_append, List.nil_append]
    rw [show off + k + 1 + xs.length = off + k + (xs.length + 1) by omega]
theorem fillN {c : Nat} (c0 : Nat → Option (Nat × Nat)) (hc0 : ∀ i, c0 i = some (i * c, c)) : ∀ (vs : List Value) (k : Nat) (acc : Array Value), (k + vs.length) * c ≤ acc.size → (∀ v ∈ vs, v.cells.size = c) →
    Instr.fill c0 acc ((vs.zipIdx k).map fun (v, i) => (i, v)) = some (acc.toList.take (k * c) ++ vs.flatMap (fun v => v.cells.toList) ++ acc.toList.drop ((k + vs.length) * c)).toArray
  | [], k, acc, h, _ => by simp [Instr.fill]
  | v :: vs, k, acc, h, h1 => by
    simp only [List.length_cons] at h
    have hv := h1 v (by simp)
    have hsz : k * c + c ≤ acc.size := by
      have : (k + 1) * c ≤ (k + (vs.length + 1)) * c := Nat.mul_le_mul_right _ (by omega)
      rw [Nat.add_mul, Nat.one_mul] at this; omega
    rw [List.zipIdx_cons, List.map_cons]
    simp only [Instr.fill, hc0]
    rw [if_neg (by simp [hv]; omega)]
    have hfold := foldl_set v.cells.toList acc (k * c) 0 (by simp [hv]; exact hsz)
    simp only [Array.toArray_toList, Nat.add_zero, Array.length_toList, hv] at hfold
    rw [hfold, fillN c0 hc0 vs (k + 1) _ (by simp [hv]; rw [Nat.add_mul, Nat.add_mul] at *; omega) (fun u hu => h1 u (by simp [hu]))]
    congr 2
    have hA : (acc.toList.take (k * c)).length = k * c := by simp; omega
    have hA1 : (acc.toList.take (k * c) ++ v.cells.toList).length = (k + 1) * c := by rw [List.length_append, hA, Array.length_toList, hv, Nat.add_mul, Nat.one_mul]
    simp only [List.flatMap_cons, List.length_cons]
    rw [List.take_left' hA1]
    have e5 : (k + 1 + vs.length) * c = (k + 1) * c + vs.length * c := Nat.add_mul _ _ _
    rw [e5, ← List.drop_drop, List.drop_left' hA1, List.drop_drop]
    simp only [List.append_assoc]
    rw [show k * c + c + vs.length * c = (k + (vs.length + 1)) * c by rw [Nat.add_mul, Nat.add_mul, Nat.one_mul]; omega]
theorem run_litN {P : Program} {t e : TypeId} {c bytes : Nat} (hel : El P t e c bytes) (vs : List Value) (h1 : ∀ v ∈ vs, v.cells.size = c) (h0 : 0 < vs.length) (hm : vs.length * c ≤ 16777216) (w : World) :
    (Instr.buildSlice t vs.length (vs.zipIdx.map fun (v, i) => (i, v)).toArray).run P w = .ok (.slice (some ⟨w.heap.size, 0, none⟩) vs.length vs.length) (w.alloc (.cells (vs.flatMap fun v => v.cells.toList).toArray e)) := by
  obtain ⟨i, z, ht, hi, hz, hc, _, hzc, hp⟩ := hel.ex
  have hfill := fillN (c := c) (fun i => some (i * c, c)) (by simp) vs 0 ((Array.range (vs.length * c)).map (z.cells[· % z.cells.size]!)) (by simp) h1
  simp only [Nat.zero_mul, List.take_zero, List.nil_append, Nat.zero_add] at hfill
  rw [List.drop_of_length_le (by simp)] at hfill
  simp only [List.append_nil] at hfill
  have hne : ¬ (vs.length * c > 2 ^ 24) := by omega
  have hne2 : ¬ (vs.length * c = 0) := by
    have := Nat.mul_pos h0 hp; omega
  simp only [Instr.buildSlice, Sem.run_bind, run_underlying ht, Result.andThen_ok, sizeOf, typeInfo, run_program, hi, Sem.run_pure, hc, zeroValue, hz, if_neg hne, if_neg hne2]
  simp only [hfill, newRow]
  simp
section
variable {P : Program} {n : Nat} {W : Base} {fr : Fr} {L : List Own} {Q : Exit → Act → World → Prop} {ops : Array Oper} {rest : List Oper} {d : Nat} {dst : Option Tmp} {ty : TypeId} {pos : String} {after : Array Edge} {guard : Option (Nat × Bool)}
theorem TL_litN {t e : TypeId} {c bytes m : Nat} {parts : Array (Nat × Operand)} {cs : Array Value} (vs : List Value) [hel : ElC P t e c bytes] (hp : partsEv fr parts.toList = some (vs.zipIdx.map fun (v, i) => (i, v))) (hm : vs.length = m) (h0 : Nat.blt 0 m = true) (h1 : ∀ v ∈ vs, v.cells.size = c) (hs : Nat.ble (m * c) 16777216 = true) (hcs : cs = (vs.flatMap fun v => v.cells.toList).toArray) (hn : Nat.blt d n = true)
    (h : ∀ g, TL P n W ops Q rest ((d, .slice (some ⟨g, 0, none⟩) m m) :: fr) (L ++ [blkO g cs e])) : TL P n W ops Q (⟨some d, .buildSlice t m parts, ty, pos, after, none⟩ :: rest) fr L := by
  subst hm hcs
  refine TL_lit (fun a w hr => ?_) hn h
  have e : (parts.map fun (i, x) => (i, a.eval x)) = (vs.zipIdx.map fun (v, i) => (i, v)).toArray := by
    rw [← partsEv_of hr _ _ hp, ← Array.toList_map, Array.toArray_toList]
  rw [e]
  exact run_litN hel.el vs h1 (Nat.le_of_ble_eq_true h0) (Nat.le_of_ble_eq_true hs) w
/-- 's[:k]' of a slice -/
theorem rr_slpre {t e : TypeId} {x z : Operand} {agg : Bool} {c j len cap : Nat} {base : Option Addr} {k : IntKind} (ht : P.underlying t = some (.slice e)) (he : Ty P e agg c) (hx : ev fr x = some (.slice base len cap)) (hz : ev fr z = some (.int k (j : Int))) (h : j ≤ cap) : RR P n W ⟨dst, .slice t x none (some z) none, ty, pos, after, guard⟩ fr L (.slice base j cap) := .mk fun a w hr hm => by
  have h1 := (rr_slupto (P := P) (n := n) (W := W) (L := L) (dst := dst) (ty := ty) (pos := pos) (after := after) (guard := guard) ht he hx hz h).go a w hr hm
  have e1 : subV base cap c 0 j = .slice base j cap := by
    unfold subV
    cases base with
    | none => simp
    | some q => simp [Addr.add]
  rw [e1] at h1; exact h1
/-- nothing is handed back -/
theorem E_ret0 {fn : Func} {R : Ending → World → Prop} (hres : fn.results = #[]) (h : ∀ w, Mem W L w → R (.returned (.tuple #[])) w) : E n W .ret (bodyPost P fn R) fr L :=
  E_ret fun a w hr hm => ⟨.tuple #[], by simp [results, hres], h w hm⟩
/-- the text's end is come to -/
theorem E_end0 {fn : Func} {R : Ending → World → Prop} (hres : fn.results = #[]) (h : ∀ w, Mem W L w → R (.returned (.tuple #[])) w) : E n W .normal (bodyPost P fn R) fr L :=
  ⟨fun a w hr hm => ⟨hr.defers, .tuple #[], by simp [results, hres], h w hm⟩⟩
end
end Go.Proofs.YtkcnoompimohnaaDoor.eng

/- ClsHas -/
namespace Go.Proofs.YtkcnoompimohnaaDoor.eng
open Go.RowKit kit mix classL
theorem shrU {P : Program} (x j b : Nat) (k k' : IntKind) (hb : k.bits = b) (hj : j ≤ b) (w : World) : (Op.shift .shr k (x : Int) k' (j : Int)).run P w = .ok (.int k ((x / 2 ^ j : Nat) : Int)) w := by
  have e : min j b = j := by omega
  have h0 : ¬ ((j : Int) < 0) := by omega
  have e2 : (x : Int).fdiv (2 ^ j) = ((x / 2 ^ j : Nat) : Int) := by
    rw [Int.fdiv_eq_ediv_of_nonneg _ (by have : (0 : Int) < 2 ^ j := Int.pow_pos (by decide); omega)]
    simp
  simp only [Op.shift, if_neg h0, hb, Int.toNat_natCast, e, e2, Sem.run_pure]
theorem cls_cell (c : C4) (i : Nat) (h : i < 4) : (#[v64 c.a, v64 c.b, v64 c.c, v64 c.d] : Array Value)[i]? = some (.int .u64 ((c.get i).toNat : Int)) := by
  match i, h with
  | 0, _ => rfl
  | 1, _ => rfl
  | 2, _ => rfl
  | 3, _ => rfl
theorem u8and63 : ∀ b : Nat, b < 256 → bits .and .u8 (b : Int) 63 = ((b % 64 : Nat) : Int) := by decide +kernel
theorem has_calls (c : C4) (b : Nat) (hb : b < 256) (w : World) : Calls Tryd.prog 40 #[clsV c, .int .u8 (b : Int)] w (Meets (ret (.bool (c.mem b))) w) := by
  refine enter (args := [.agg #[v64 c.a, v64 c.b, v64 c.c, v64 c.d], .int .u8 (b : Int)]) (n := 14) Tryd.func40 rfl rfl rfl ?_
  refine T_seq (T_region (TL_box rfl rfl rfl fun g => ?_))
  have h1 : b / 64 < 4 := by omega
  have hc : (#[v64 c.a, v64 c.b, v64 c.c, v64 c.d] : Array Value)[0 + b / 64]? = some (.int .u64 ((c.get (b / 64)).toNat : Int)) := by rw [Nat.zero_add]; exact cls_cell c _ h1
  have hx := (c.get (b / 64)).isLt
  have hs1 : ∀ w, (Op.shift .shr .u8 (b : Int) .u64 6).run Tryd.prog w = .ok (.int .u8 ((b / 64 : Nat) : Int)) w := fun w => shrU b 6 8 .u8 .u64 rfl (by decide) w
  have hs2 : ∀ w, (Op.shift .shr .u64 ((c.get (b / 64)).toNat : Int) .u8 ((b % 64 : Nat) : Int)).run Tryd.prog w = .ok (.int .u64 (((c.get (b / 64)).toNat / 2 ^ (b % 64) : Nat) : Int)) w := fun w => shrU _ (b % 64) 64 .u64 .u8 rfl (by omega) w
  have hm : c.mem b = decide ((c.get (b / 64)).toNat / 2 ^ (b % 64) % 2 = 1) := by unfold C4.mem; rw [Nat.testBit_eq_decide_div_mod_eq]
  rw [hm]
  have hd : (c.get (b / 64)).toNat / 2 ^ (b % 64) ≤ (c.get (b / 64)).toNat := Nat.div_le_self _ _
  have h63 := u8and63 b hb
  generalize (c.get (b / 64)).toNat = x at *
  generalize b % 64 = k at *
  generalize b / 64 = i at *
  generalize x / 2 ^ k = y at *
  have ha : bits .and .u64 (y : Int) 1 = ((y % 2 : Nat) : Int) := by
    have := bits_and_u64_nat y 1 (by omega) (by decide)
    rw [Nat.and_one_is_mod] at this
    exact this
  repeat (first
    | refine QV QP ?_ | refine QZ ?_ | refine QV (rr_shr rfl rfl hs1) ?_ | refine QV (rr_aidx1 Und.eq TyC.ty rfl rfl h1) ?_
    | refine QV (rr_load1 TyC.ty rfl (at_blk (i := 0) rfl hc)) ?_ | refine QV (rr_and rfl rfl h63) ?_ | refine QV (rr_shr rfl rfl hs2) ?_
    | refine QV (rr_and rfl rfl ha) ?_ | refine QV (rr_eql rfl rfl rfl) ?_ | refine QV QeT ?_ | refine QV QeF ?_)
  exact E_ret1e rfl rfl (by congr 1; rw [decide_eq_decide]; omega)
end Go.Proofs.YtkcnoompimohnaaDoor.eng

/- RexL -/
namespace Go.Proofs.YtkcnoompimohnaaDoor.rexL
open classL
inductive Rx where
  | mk (kind : Int) (c : C4) (kids : List Rx)
def Rx.kind : Rx → Int | .mk k _ _ => k
def Rx.cls : Rx → C4 | .mk _ c _ => c
def Rx.kids : Rx → List Rx | .mk _ _ l => l
def kidsN (k : Int) : Int := if k = 1 then 0 else if k = 2 then 0 else if k = 3 then 0 else if k = 6 then 1 else if k = 4 then 2 else if k = 5 then 2 else -1
mutual
/-- Check at a node: the error, how many nodes -/
def chk : Rx → Nat → Nat → Int × Nat
  | .mk k c l, deep, n => if 100 < n + 1 then (2, n + 1) else if 30 < deep then (7, n + 1) else if kidsN k ≠ (l.length : Int) then (1, n + 1) else if (decide (k = 3) != decide (c ≠ C4.zero)) = true then (1, n + 1) else chks l (deep + 1) (n + 1)
def chks : List Rx → Nat → Nat → Int × Nat
  | [], _, n => (0, n)
  | r :: l, deep, n => if (chk r deep n).1 ≠ 0 then chk r deep n else chks l deep (chk r deep n).2
end
mutual
def sizeX : Rx → Nat
  | .mk _ _ l => sizesX l + 1
def sizesX : List Rx → Nat
  | [] => 0
  | r :: l => sizeX r + sizesX l
end
theorem sizeX_pos (r : Rx) : 0 < sizeX r := by obtain ⟨k, c, l⟩ := r; rw [sizeX]; omega
theorem sizesX_mem : ∀ {l : List Rx} {r : Rx}, r ∈ l → sizeX r ≤ sizesX l
  | x :: l, r, h => by
    rw [sizesX]
    rcases List.mem_cons.1 h with rfl | h
    · omega
    · have := sizesX_mem h; omega
/-! ### expressions that are as they should be -/
inductive Re where
  | none
  | empty
  | byte (c : C4)
  | cat (a b : Re)
  | alt (a b : Re)
  | star (a : Re)
def Re.size : Re → Nat
  | .cat a b => a.size + b.size + 1
  | .alt a b => a.size + b.size + 1
  | .star a => a.size + 1
  | _ => 1
def Re.hgt : Re → Nat
  | .cat a b => max a.hgt b.hgt + 1
  | .alt a b => max a.hgt b.hgt + 1
  | .star a => a.hgt + 1
  | _ => 1
def Re.nz : Re → Prop
  | .byte c => c ≠ C4.zero
  | .cat a b => a.nz ∧ b.nz
  | .alt a b => a.nz ∧ b.nz
  | .star a => a.nz
  | _ => True
def Re.kind : Re → Int
  | .none => 1
  | .empty => 2
  | .byte _ => 3
  | .cat _ _ => 4
  | .alt _ _ => 5
  | .star _ => 6
def Re.cls : Re → C4
  | .byte c => c
  | _ => C4.zero
def Re.kids : Re → List Re
  | .cat a b => [a, b]
  | .alt a b => [a, b]
  | .star a => [a]
  | _ => []
def emb : Re → Rx
  | .none => .mk 1 C4.zero []
  | .empty => .mk 2 C4.zero []
  | .byte c => .mk 3 c []
  | .cat a b => .mk 4 C4.zero [emb a, emb b]
  | .alt a b => .mk 5 C4.zero [emb a, emb b]
  | .star a => .mk 6 C4.zero [emb a]
theorem emb_eq (r : Re) : emb r = .mk r.kind r.cls (r.kids.map emb) := by cases r <;> rfl
theorem Re.size_pos (r : Re) : 0 < r.size := by cases r <;> simp [Re.size]
theorem Re.hgt_pos (r : Re) : 0 < r.hgt := by cases r <;> simp [Re.hgt]
theorem len_two {α : Type} {l : List α} (h : l.length = 2) : ∃ a b, l = [a, b] :=
  match l, h with
  | [a, b], _ => ⟨a, b, rfl⟩
/-- what Check wants -/
structure Fit (r : Re) (deep n : Nat) : Prop where
  nz : r.nz
  sz : n + r.size ≤ 100
  dp : deep + r.hgt ≤ 31
theorem chk_pair {p : Int × Nat} {q : Nat} (h : p = (0, q)) : p.1 = 0 ∧ p.2 = q := by subst h; exact ⟨rfl, rfl⟩
theorem chk_fit : ∀ (N : Nat) (r : Rx) (deep n q : Nat), sizeX r ≤ N → chk r deep n = (0, q) → ∃ e : Re, r = emb e ∧ Fit e deep n ∧ q = n + e.size
  | 0, r, _, _, _, h, _ => by have := sizeX_pos r; omega
  | N + 1, .mk k c l, deep, n, q, hN, h => by
    have IH := chk_fit N
    rw [sizeX] at hN
    rw [chk] at h
    split at h
    · simp at h
    split at h
    · simp at h
    split at h
    · simp at h
    split at h
    · simp at h
    rename_i h1 h2 h3 h4
    have h3 : kidsN k = (l.length : Int) := by simpa using h3
    have h4 : decide (k = 3) = decide (c ≠ C4.zero) := by
      generalize decide (k = 3) = x at *
      generalize decide (c ≠ C4.zero) = y at *
      cases x <;> cases y <;> simp_all
    have leaf : ∀ e : Re, k = e.kind → c = e.cls → l = [] → e.kids = [] → e.size = 1 → e.hgt = 1 → e.nz → ∃ e : Re, Rx.mk k c l = emb e ∧ Fit e deep n ∧ q = n + e.size := fun e a1 a2 a3 a4 a5 a6 a7 => by
      subst a1 a2 a3
      rw [chks] at h
      refine ⟨e, by rw [emb_eq, a4]; rfl, ⟨a7, by omega, by omega⟩, ?_⟩
      simp at h; omega
    unfold kidsN at h3
    have hz : k ≠ 3 → c = C4.zero := fun hk => by
      rw [decide_eq_false hk] at h4
      exact Classical.byContradiction fun hc => by rw [decide_eq_true hc] at h4; cases h4
    by_cases k1 : k = 1
    · rw [if_pos k1] at h3
      exact leaf .none k1 (hz (by omega)) (List.eq_nil_of_length_eq_zero (by omega)) rfl rfl rfl trivial
    rw [if_neg k1] at h3
    by_cases k2 : k = 2
    · rw [if_pos k2] at h3
      exact leaf .empty k2 (hz (by omega)) (List.eq_nil_of_length_eq_zero (by omega)) rfl rfl rfl trivial
    rw [if_neg k2] at h3
    by_cases k3 : k = 3
    · rw [if_pos k3] at h3
      rw [decide_eq_true k3] at h4
      exact leaf (.byte c) k3 rfl (List.eq_nil_of_length_eq_zero (by omega)) rfl rfl rfl (by show c ≠ C4.zero; exact of_decide_eq_true h4.symm)
    rw [if_neg k3] at h3
    have hc := hz k3
    subst hc
    have two : ∀ (a b : Rx), l = [a, b] → ∃ x y : Re, a = emb x ∧ b = emb y ∧ Fit x (deep + 1) (n + 1) ∧ Fit y (deep + 1) (n + 1 + x.size) ∧ q = n + 1 + x.size + y.size := fun a b hl => by
      subst hl
      rw [sizesX, sizesX, sizesX] at hN
      rw [chks, chks, chks] at h
      by_cases e1 : (chk a (deep + 1) (n + 1)).1 = 0
      · rw [if_neg (by simpa using e1)] at h
        obtain ⟨x, rfl, f1, g1⟩ := IH a (deep + 1) (n + 1) (chk a (deep + 1) (n + 1)).2 (by omega) (Prod.ext e1 rfl)
        rw [g1] at h
        by_cases e2 : (chk b (deep + 1) (n + 1 + x.size)).1 = 0
        · rw [if_neg (by simpa using e2)] at h
          obtain ⟨y, rfl, f2, g2⟩ := IH b (deep + 1) (n + 1 + x.size) (chk b (deep + 1) (n + 1 + x.size)).2 (by omega) (Prod.ext e2 rfl)
          exact ⟨x, y, rfl, rfl, f1, f2, by rw [g2] at h; simp at h; omega⟩
        · rw [if_pos e2] at h
          exact absurd (chk_pair h).1 e2
      · rw [if_pos e1] at h
        exact absurd (chk_pair h).1 e1
    by_cases k6 : k = 6
    · rw [if_pos k6] at h3
      obtain ⟨a, rfl⟩ : ∃ a, l = [a] := List.length_eq_one_iff.1 (by omega)
      rw [sizesX, sizesX] at hN
      rw [chks, chks] at h
      by_cases e1 : (chk a (deep + 1) (n + 1)).1 = 0
      · rw [if_neg (by simpa using e1)] at h
        obtain ⟨x, rfl, f1, g1⟩ := IH a (deep + 1) (n + 1) (chk a (deep + 1) (n + 1)).2 (by omega) (Prod.ext e1 rfl)
        have := f1.sz
        have := f1.dp
        exact ⟨.star x, by rw [k6]; rfl, ⟨f1.nz, by simp only [Re.size]; omega, by simp only [Re.hgt]; omega⟩, by rw [g1] at h; simp at h; simp only [Re.size]; omega⟩
      · rw [if_pos e1] at h
        exact absurd (chk_pair h).1 e1
    rw [if_neg k6] at h3
    by_cases k4 : k = 4
    · rw [if_pos k4] at h3
      obtain ⟨a, b, rfl⟩ : ∃ a b, l = [a, b] := len_two (by omega)
      obtain ⟨x, y, rfl, rfl, f1, f2, g⟩ := two a b rfl
      have := f1.dp
      have := f2.dp
      have := f2.sz
      exact ⟨.cat x y, by rw [k4]; rfl, ⟨⟨f1.nz, f2.nz⟩, by simp only [Re.size]; omega, by simp only [Re.hgt]; omega⟩, by simp only [Re.size]; omega⟩
    rw [if_neg k4] at h3
    by_cases k5 : k = 5
    · rw [if_pos k5] at h3
      obtain ⟨a, b, rfl⟩ : ∃ a b, l = [a, b] := len_two (by omega)
      obtain ⟨x, y, rfl, rfl, f1, f2, g⟩ := two a b rfl
      have := f1.dp
      have := f2.dp
      have := f2.sz
      exact ⟨.alt x y, by rw [k5]; rfl, ⟨⟨f1.nz, f2.nz⟩, by simp only [Re.size]; omega, by simp only [Re.hgt]; omega⟩, by simp only [Re.size]; omega⟩
    rw [if_neg k5] at h3
    omega
theorem fit_chk : ∀ (e : Re) (deep n : Nat), Fit e deep n → chk (emb e) deep n = (0, n + e.size)
  | .none, deep, n, h => by
    have := h.sz; have := h.dp
    simp only [Re.size, Re.hgt] at *
    rw [emb, chk, if_neg (by omega), if_neg (by omega), if_neg (by decide), if_neg (by decide), chks]
  | .empty, deep, n, h => by
    have := h.sz; have := h.dp
    simp only [Re.size, Re.hgt] at *
    rw [emb, chk, if_neg (by omega), if_neg (by omega), if_neg (by decide), if_neg (by decide), chks]
  | .byte c, deep, n, h => by
    have h1 := h.sz; have h2 := h.dp
    have h3 : c ≠ C4.zero := h.nz
    simp only [Re.size, Re.hgt] at *
    rw [emb, chk, if_neg (by omega), if_neg (by omega), if_neg (by show ¬ ((0 : Int) ≠ 0); simp), if_neg (by rw [decide_eq_true h3]; decide), chks]
  | .star a, deep, n, h => by
    have h1 := h.sz; have h2 := h.dp
    simp only [Re.size, Re.hgt] at *
    have e := fit_chk a (deep + 1) (n + 1) ⟨h.nz, by omega, by omega⟩
    have := a.hgt_pos
    have := a.size_pos
    rw [emb, chk, if_neg (by omega), if_neg (by omega), if_neg (by show ¬ ((1 : Int) ≠ 1); simp), if_neg (by decide), chks, e, if_neg (by simp), chks]
    simp; omega
  | .cat a b, deep, n, h => by
    have h1 := h.sz; have h2 := h.dp
    simp only [Re.size, Re.hgt] at *
    have := a.hgt_pos
    have := a.size_pos
    have := b.size_pos
    have e := fit_chk a (deep + 1) (n + 1) ⟨h.nz.1, by omega, by omega⟩
    have e' := fit_chk b (deep + 1) (n + 1 + a.size) ⟨h.nz.2, by omega, by omega⟩
    rw [emb, chk, if_neg (by omega), if_neg (by omega), if_neg (by show ¬ ((2 : Int) ≠ 2); simp), if_neg (by decide), chks, e, if_neg (by simp), chks, e', if_neg (by simp), chks]
    simp; omega
  | .alt a b, deep, n, h => by
    have h1 := h.sz; have h2 := h.dp
    simp only [Re.size, Re.hgt] at *
    have := a.hgt_pos
    have := a.size_pos
    have := b.size_pos
    have e := fit_chk a (deep + 1) (n + 1) ⟨h.nz.1, by omega, by omega⟩
    have e' := fit_chk b (deep + 1) (n + 1 + a.size) ⟨h.nz.2, by omega, by omega⟩
    rw [emb, chk, if_neg (by omega), if_neg (by omega), if_neg (by show ¬ ((2 : Int) ≠ 2); simp), if_neg (by decide), chks, e, if_neg (by simp), chks, e', if_neg (by simp), chks]
    simp; omega
/-! ### what expressions mean -/
inductive Star (P : List UInt8 → Prop) : List UInt8 → Prop
  | nil : Star P []
  | cons {u v : List UInt8} : P u → Star P v → Star P (u ++ v)
def Lang : Re → List UInt8 → Prop
  | .none, _ => False
  | .empty, s => s = []
  | .byte c, s => ∃ b : UInt8, s = [b] ∧ c.mem b.toNat = true
  | .cat a b, s => ∃ u v, s = u ++ v ∧ Lang a u ∧ Lang b v
  | .alt a b, s => Lang a s ∨ Lang b s
  | .star a, s => Star (Lang a) s
theorem star_snoc {P : List UInt8 → Prop} {u v : List UInt8} (h : Star P u) (hv : P v) : Star P (u ++ v) := by
  induction h with
  | nil => have := Star.cons hv .nil; simpa using this
  | cons h1 _ ih => rw [List.append_assoc]; exact .cons h1 ih
def seg (s : List UInt8) (f j : Nat) : List UInt8 := (s.drop f).take (j - f)
theorem seg_len {s : List UInt8} {f j : Nat} (h : j ≤ s.length) : (seg s f j).length = j - f := by unfold seg; rw [List.length_take, List.length_drop]; omega
theorem seg_self (s : List UInt8) (f : Nat) : seg s f f = [] := by unfold seg; simp
theorem seg_app {s : List UInt8} {f i j : Nat} (h1 : f ≤ i) (h2 : i ≤ j) : seg s f j = seg s f i ++ seg s i j := by
  unfold seg
  rw [show j - f = (i - f) + (j - i) by omega, List.take_add, List.drop_drop, show f + (i - f) = i by omega]
theorem seg_cut {s u v : List UInt8} {f j : Nat} (hf : f ≤ j) (hj : j ≤ s.length) (h : seg s f j = u ++ v) : f + u.length ≤ j ∧ u = seg s f (f + u.length) ∧ v = seg s (f + u.length) j := by
  have hl := seg_len (s := s) (f := f) hj
  rw [h, List.length_append] at hl
  have h1 : f + u.length ≤ j := by omega
  have e := seg_app (s := s) (f := f) (i := f + u.length) (j := j) (by omega) h1
  rw [h] at e
  have hlu : u.length = (seg s f (f + u.length)).length := by rw [seg_len (by omega)]; omega
  have := List.append_inj e hlu
  exact ⟨h1, this.1, this.2⟩
theorem seg_all (s : List UInt8) : seg s 0 s.length = s := by unfold seg; simp
def EndP (r : Re) (s : List UInt8) (f j : Nat) : Prop := f ≤ j ∧ j ≤ s.length ∧ Lang r (seg s f j)
theorem end_cat {a b : Re} {s : List UInt8} {f j : Nat} : EndP (.cat a b) s f j ↔ ∃ i, EndP a s f i ∧ EndP b s i j := by
  constructor
  · rintro ⟨h1, h2, u, v, h3, h4, h5⟩
    obtain ⟨a1, a2, a3⟩ := seg_cut h1 h2 h3
    exact ⟨f + u.length, ⟨by omega, by omega, by rw [← a2]; exact h4⟩, a1, h2, by rw [← a3]; exact h5⟩
  · rintro ⟨i, ⟨h1, h2, h3⟩, h4, h5, h6⟩
    exact ⟨by omega, h5, _, _, seg_app h1 h4, h3, h6⟩
theorem end_alt {a b : Re} {s : List UInt8} {f j : Nat} : EndP (.alt a b) s f j ↔ EndP a s f j ∨ EndP b s f j := by
  constructor
  · rintro ⟨h1, h2, h | h⟩
    · exact .inl ⟨h1, h2, h⟩
    · exact .inr ⟨h1, h2, h⟩
  · rintro (⟨h1, h2, h⟩ | ⟨h1, h2, h⟩)
    · exact ⟨h1, h2, .inl h⟩
    · exact ⟨h1, h2, .inr h⟩
theorem end_empty {s : List UInt8} {f j : Nat} (hf : f ≤ s.length) : EndP .empty s f j ↔ j = f := by
  constructor
  · rintro ⟨h1, h2, h⟩
    have h : seg s f j = [] := h
    have := seg_len (s := s) (f := f) h2
    rw [h] at this
    simp at this; omega
  · rintro rfl
    exact ⟨Nat.le_refl _, hf, seg_self s j⟩
theorem end_byte {c : C4} {s : List UInt8} {f j : Nat} : EndP (.byte c) s f j ↔ ∃ h : f < s.length, j = f + 1 ∧ c.mem (s[f]).toNat = true := by
  constructor
  · rintro ⟨h1, h2, b, h3, h4⟩
    have hl := seg_len (s := s) (f := f) h2
    rw [h3] at hl
    have hj : j = f + 1 := by simp at hl; omega
    subst hj
    have hf : f < s.length := by omega
    refine ⟨hf, rfl, ?_⟩
    have e : seg s f (f + 1) = [s[f]] := by
      unfold seg
      rw [show f + 1 - f = 1 by omega, List.drop_eq_getElem_cons hf]; rfl
    rw [e] at h3
    have := List.head_eq_of_cons_eq h3
    rw [this]; exact h4
  · rintro ⟨hf, rfl, h⟩
    refine ⟨by omega, by omega, s[f], ?_, h⟩
    unfold seg
    rw [show f + 1 - f = 1 by omega, List.drop_eq_getElem_cons hf]; rfl
/-- step by step -/
inductive Rch (R : Nat → Nat → Prop) (f : Nat) : Nat → Prop
  | refl : Rch R f f
  | step {i j : Nat} : Rch R f i → R i j → Rch R f j
theorem Rch.cons {R : Nat → Nat → Prop} {f i j : Nat} (h : R f i) (h' : Rch R i j) : Rch R f j := by
  induction h' with
  | refl => exact .step .refl h
  | step _ h2 ih => exact .step ih h2
theorem end_star {a : Re} {s : List UInt8} {f j : Nat} (hf : f ≤ s.length) : EndP (.star a) s f j ↔ Rch (EndP a s) f j := by
  constructor
  · rintro ⟨h1, h2, h⟩
    have h : Star (Lang a) (seg s f j) := h
    have aux : ∀ w, Star (Lang a) w → ∀ f, f ≤ j → seg s f j = w → Rch (EndP a s) f j := by
      intro w hw
      induction hw with
      | nil =>
        intro f hf' e
        have := seg_len (s := s) (f := f) h2
        rw [e] at this
        have : f = j := by simp at this; omega
        subst this; exact .refl
      | cons hu _ ih =>
        intro f hf' e
        obtain ⟨a1, a2, a3⟩ := seg_cut hf' h2 e
        exact Rch.cons ⟨Nat.le_add_right _ _, by omega, by rw [← a2]; exact hu⟩ (ih _ a1 a3.symm)
    exact aux _ h f h1 rfl
  · intro h
    induction h with
    | refl => exact ⟨Nat.le_refl _, hf, by rw [seg_self]; exact Star.nil⟩
    | step _ h2 ih =>
      obtain ⟨a1, a2, a3⟩ := ih
      obtain ⟨b1, b2, b3⟩ := h2
      exact ⟨by omega, b2, by rw [seg_app a1 b1]; exact star_snoc a3 b3⟩
def EndC (s : List UInt8) (r : Re) (f : Nat) (c : C4) : Prop := ∀ j, j < 256 → (c.mem j = true ↔ EndP r s f j)
def EachC (s : List UInt8) (r : Re) (X c : C4) : Prop := ∀ j, j < 256 → (c.mem j = true ↔ ∃ f, f < 256 ∧ X.mem f = true ∧ EndP r s f j)
end Go.Proofs.YtkcnoompimohnaaDoor.rexL

/- ReadM -/
namespace Go.Proofs.YtkcnoompimohnaaDoor.eng
open Go.RowKit kit mix Go.ChangeShapes Go.WideShapes Go.ChangeAt
/-- a measure that goes down into what a datum has -/
structure Msr (P : Program) (H : Type) where
  ok : TypeId → DataW H → Prop
  lim : TypeId → Nat → Prop
  slim : Nat → Prop
  zero : ∀ e, lim e 0
  slice : ∀ {t e : TypeId} {elems spare : List (DataW H)}, P.underlying t = some (.slice e) → ok t (.slice elems spare) → lim e elems.length ∧ ∀ d ∈ elems, ok e d
  strct : ∀ {t : TypeId} {fs : Array Field} {parts : List (DataW H)}, P.underlying t = some (.struct fs) → ok t (.agg parts) → ∀ (i : Nat) (f : Field) (d : DataW H), fs[i]? = some f → parts[i]? = some d → ok f.type d
  arr : ∀ {t e : TypeId} {m : Nat} {parts : List (DataW H)}, P.underlying t = some (.array m e) → ok t (.agg parts) → ∀ d ∈ parts, ok e d
  str : ∀ {t : TypeId} {b : List UInt8}, ok t (.lit (.string b)) → slim b.length
section
variable {H : Type} {P : Program}
theorem weights_all {e : TypeId} : ∀ (l : List (DataW H)) (d : DataW H), d ∈ l → ∀ n ∈ d.weights P e, n ∈ DataW.weightsAll P e l
  | [], _, h, _, _ => by cases h
  | x :: r, d, h, n, hn => by
    rw [DataW.weightsAll, List.mem_append]
    rcases List.mem_cons.1 h with rfl | h
    · exact .inl hn
    · exact .inr (weights_all r d h n hn)
theorem weights_each : ∀ (ts : List TypeId) (l : List (DataW H)) (i : Nat) (t : TypeId) (d : DataW H), ts[i]? = some t → l[i]? = some d → ∀ n ∈ d.weights P t, n ∈ DataW.weightsEach P ts l
  | [], _, _, _, _, h, _, _, _ => by simp at h
  | _ :: _, [], _, _, _, _, h, _, _ => by simp at h
  | t0 :: ts, d0 :: l, 0, t, d, ht, hd, n, hn => by
    simp only [List.getElem?_cons_zero, Option.some.injEq] at ht hd
    subst ht hd
    rw [DataW.weightsEach, List.mem_append]; exact .inl hn
  | t0 :: ts, d0 :: l, i + 1, t, d, ht, hd, n, hn => by
    rw [DataW.weightsEach, List.mem_append]
    exact .inr (weights_each ts l i t d (by simpa using ht) (by simpa using hd) n hn)
/-- by weight -/
def weightM (P : Program) (H : Type) : Msr P H where
  ok t d := ∀ n ∈ d.weights P t, n ≤ reachBytes
  lim e n := n * P.bytesOf e ≤ reachBytes
  slim n := n ≤ reachBytes
  zero e := by simp
  slice := fun {t e elems spare} ht h => by
    have hw : DataW.weights P t (.slice elems spare) = (elems.length + spare.length) * P.bytesOf e :: (DataW.weightsAll P e elems ++ DataW.weightsAll P e spare) := by rw [DataW.weights, ht]
    rw [hw] at h
    refine ⟨?_, fun d hd n hn => h n ?_⟩
    · have h1 := h _ (List.mem_cons_self)
      exact Nat.le_trans (Nat.mul_le_mul_right _ (by omega)) h1
    · exact List.mem_cons_of_mem _ (List.mem_append_left _ (weights_all elems d hd n hn))
  strct := fun {t fs parts} ht h i f d hf hd n hn => by
    have hw : DataW.weights P t (.agg parts) = DataW.weightsEach P (fs.toList.map (·.type)) parts := by rw [DataW.weights, ht]
    rw [hw] at h
    exact h n (weights_each _ _ i f.type d (by rw [List.getElem?_map, Array.getElem?_toList, hf]; rfl) hd n hn)
  arr := fun {t e m parts} ht h d hd n hn => by
    have hw : DataW.weights P t (.agg parts) = DataW.weightsAll P e parts := by rw [DataW.weights, ht]
    rw [hw] at h
    exact h n (weights_all parts d hd n hn)
  str := fun {t b} h => h _ (by rw [DataW.weights]; exact List.mem_cons_self)
theorem weightM_top {ts : List TypeId} {ds : List (DataW H)} (hsz : (DataW.weightsEach P ts ds).all (· ≤ reachBytes) = true) (j : Nat) {t : TypeId} {d : DataW H} (ht : ts[j]? = some t) (hd : ds[j]? = some d) : (weightM P H).ok t d := fun n hn => by
  have := List.all_eq_true.1 hsz n (weights_each ts ds j t d ht hd n hn)
  simpa using this
theorem bulk_all : ∀ (l : List (DataW H)) (d : DataW H), d ∈ l → Rows.uptoBulk d ≤ Rows.uptoBulkAll l
  | [], _, h => by cases h
  | x :: r, d, h => by
    rw [Rows.uptoBulkAll]
    rcases List.mem_cons.1 h with rfl | h
    · omega
    · have := bulk_all r d h; omega
theorem bulk_one (d : DataW H) : 1 ≤ Rows.uptoBulk d := by
  unfold Rows.uptoBulk
  split <;> omega
theorem bulk_count : ∀ (ds : List (DataW H)), ds.length ≤ Rows.uptoBulkAll ds
  | [] => by simp
  | d :: r => by
    have := bulk_count r
    have := bulk_one d
    rw [Rows.uptoBulkAll, List.length_cons]; omega
/-- by bulk -/
def bulkM (P : Program) (H : Type) : Msr P H where
  ok _ d := Rows.uptoBulk d ≤ 1048576
  lim _ n := n ≤ 1048576
  slim n := n ≤ 1048576
  zero e := by simp
  slice := fun {t e elems spare} _ h => by
    rw [Rows.uptoBulk] at h
    exact ⟨by have := bulk_count elems; omega, fun d hd => by have := bulk_all elems d hd; omega⟩
  strct := fun {t fs parts} _ h i f d _ hd => by
    rw [Rows.uptoBulk] at h
    have := bulk_all parts d (List.mem_of_getElem? hd)
    omega
  arr := fun {t e m parts} _ h d hd => by
    rw [Rows.uptoBulk] at h
    have := bulk_all parts d hd
    omega
  str := fun {t b} h => by rw [Rows.uptoBulk] at h; omega
theorem bulkM_top {ds : List (DataW H)} (hk : Rows.uptoSmall H ds = true) (j : Nat) {t : TypeId} {d : DataW H} (hd : ds[j]? = some d) : (bulkM P H).ok t d := by
  have h := of_decide_eq_true hk
  have := bulk_all ds d (List.mem_of_getElem? hd)
  show Rows.uptoBulk d ≤ 1048576
  omega
end
section
variable {H : Type} {enc0 : TypeId × Value → H} {P : Program} {W : World} {M : Msr P H}
def OpensM (M : Msr P H) (enc0 : TypeId × Value → H) (W : World) (t : TypeId) {α : Type} (is : List Value → α → Prop) : Prop :=
  ∀ fuel cs x, DataW.trod enc0 P W 0 (fun _ => true) true fuel t cs = some x → M.ok t x.1 → ∃ a, is cs a
theorem OpensM.mono {t : TypeId} {α β : Type} {is : List Value → α → Prop} {is' : List Value → β → Prop} (h : OpensM M enc0 W t is) (hi : ∀ cs a, is cs a → ∃ b, is' cs b) : OpensM M enc0 W t is' := fun f cs x hx hm => let ⟨a, ha⟩ := h f cs x hx hm; hi _ _ ha
theorem opensM_of {t : TypeId} {α : Type} {is : List Value → α → Prop} (h : Opens enc0 P W t is) : OpensM M enc0 W t is := fun f cs x hx _ => h f cs x hx
theorem opensM_i64 {t : TypeId} (ht : P.underlying t = some (.int .i64)) : OpensM M enc0 W t (isInt .i64 (-9223372036854775808) 9223372036854775807) := opensM_of (opens_i64 ht)
theorem opensM_bool {t : TypeId} (ht : P.underlying t = some .bool) : OpensM M enc0 W t isBool := opensM_of (opens_bool ht)
theorem opensM_str {t : TypeId} (ht : P.underlying t = some .string) : OpensM M enc0 W t (fun cs s => isStr cs s ∧ M.slim s.length) := fun f cs x h hm => by
  obtain ⟨s, h1, h2, h3⟩ := DataW.trod_string ht h
  refine ⟨s.data.toList, ⟨by rw [h1, str_of], ?_⟩, ?_⟩
  · have e : s.data.toList.length = s.size := Array.length_toList
    unfold maxLen at h3; omega
  · rw [h2] at hm
    exact M.str hm
theorem opensM_slice {t e : TypeId} {c : Nat} (ht : P.underlying t = some (.slice e)) (hc : P.cellsOf e = c) (hc0 : 0 < c) {α : Type} {is : List Value → α → Prop} (hd : OpensM M enc0 W e is) (hl : ∀ cs a, is cs a → cs.length = c) : OpensM M enc0 W t (fun cs l => isSl W is c cs l ∧ M.lim e l.length) := fun fuel cs x h hm => by
  rcases DataW.trod_slice ht h with ⟨rfl, _⟩ | ⟨a, len, cap, elems, rest, n, _, rfl, hx, _, hlc, hmx, hel, hread, _⟩
  · exact ⟨[], ⟨_, rfl, none, 0, rfl, Nat.le_refl _, by decide, fun h => by simp at h⟩, M.zero e⟩
  · rw [hx] at hm
    obtain ⟨hlim, hall⟩ := M.slice ht hm
    have each : ∀ i, i < len → ∃ y : α, ∃ cs, W.cells? 0 (a.add (i * c)) c = some cs ∧ is cs y := fun i hi => by
      have h1 := hread i hi
      rw [hc, List.getElem?_eq_getElem (by omega)] at h1
      cases hcell : W.cells? 0 (a.add (i * c)) c with
      | none => rw [hcell] at h1; simp at h1
      | some cs =>
        rw [hcell] at h1
        obtain ⟨y, hy⟩ := hd n cs _ h1 (hall _ (List.mem_map.2 ⟨_, List.getElem_mem (by omega), rfl⟩))
        exact ⟨y, cs, rfl, hy⟩
    obtain ⟨l, hll, hp⟩ := list_of len each
    subst hll
    refine ⟨l, ⟨_, rfl, some a, cap, rfl, hlc, hmx, fun h0 => ?_⟩, by rw [List.length_map, hel] at hlim; exact hlim⟩
    obtain ⟨cs0, h1, h2⟩ := hp 0 l[0] (List.getElem?_eq_getElem h0)
    have h3 := (cells_some h1).2 0 hc0
    have hlen := (cells_some h1).1
    rw [List.getElem?_eq_getElem (by omega)] at h3
    have hsp := spot_none h3
    have e0 : a.spot = none := by
      rw [Nat.zero_mul] at hsp
      unfold Addr.add at hsp
      simpa using hsp
    obtain ⟨b, off, spot⟩ := a
    simp only at e0
    subst e0
    refine ⟨b, off, rfl, fun i hi => ?_⟩
    obtain ⟨cs, h4, h5⟩ := hp i l[i] (List.getElem?_eq_getElem hi)
    refine ⟨cs, h5, fun j u hj => ?_⟩
    have hjl : j < c := by have := (List.getElem?_eq_some_iff.1 hj).1; rw [(cells_some h4).1] at this; exact this
    have h6 := (cells_some h4).2 j hjl
    rw [addr_add, addr_add] at h6
    rw [h6]; exact hj
/-- a struct's fields -/
theorem fieldM_of {t : TypeId} {fs : Array Field} (ht : P.underlying t = some (.struct fs)) {fuel : Nat} {cs : List Value} {x : DataW H × List MemPlace} (h : DataW.trod enc0 P W 0 (fun _ => true) true fuel t cs = some x) (hm : M.ok t x.1) :
    cs.length = P.cellsOf t ∧ ∀ (i : Nat) (f : Field), fs[i]? = some f → ∀ {α : Type} {is : List Value → α → Prop}, OpensM M enc0 W f.type is → ∃ a, is ((cs.drop f.offset).take (P.cellsOf f.type)) a := by
  obtain ⟨xs, n, _, hx, hl, hlen, hf⟩ := DataW.trod_struct ht h
  refine ⟨hl, fun i f hi α is ho => ?_⟩
  have h1 := hf i f hi
  have hlt : i < xs.length := by rw [hlen]; exact (Array.getElem?_eq_some_iff.1 hi).1
  rw [List.getElem?_eq_getElem hlt] at h1
  rw [hx] at hm
  exact ho n _ _ h1 (M.strct ht hm i f _ hi (by rw [List.getElem?_map, List.getElem?_eq_getElem hlt]; rfl))
/-- an array of elements -/
theorem opensM_array {t e : TypeId} {m c : Nat} (ht : P.underlying t = some (.array m e)) (hc : P.cellsOf e = c) {α : Type} {is : List Value → α → Prop} (hd : OpensM M enc0 W e is) : OpensM M enc0 W t (fun cs l => cs.length = P.cellsOf t ∧ isArr is m c cs l) := fun fuel cs x h hm => by
  obtain ⟨xs, n, _, hx, hl, hlen, hf⟩ := DataW.trod_array ht h
  rw [hx] at hm
  have hall := M.arr ht hm
  have each : ∀ i, i < m → ∃ y : α, is ((cs.drop (i * c)).take c) y := fun i hi => by
    have h1 := hf i hi
    rw [hc, List.getElem?_eq_getElem (by omega)] at h1
    exact hd n _ _ h1 (hall _ (List.mem_map.2 ⟨_, List.getElem_mem (by omega), rfl⟩))
  obtain ⟨l, hll, hp⟩ := list_of m each
  exact ⟨l, hl, hll, fun i hi => hp i _ (List.getElem?_eq_getElem hi)⟩
/-- at the top: a struct by value -/
theorem topM_agg {t : TypeId} {fs : Array Field} (ht : P.underlying t = some (.struct fs)) {base : Nat} {v : Value} {d : DataW H} {ps : List MemPlace} (hv : Value.okWide P W .any base t v) (h : DataW.Trod enc0 P W 0 (fun _ => true) true t v d ps) {α : Type} {is : List Value → α → Prop} (ho : OpensM M enc0 W t is) (hm : M.ok t d) : ∃ cs a, v = .agg cs ∧ is cs.toList a := by
  obtain ⟨cs, fuel, rfl, hf⟩ := top_agg ht hv h
  obtain ⟨a, ha⟩ := ho fuel cs.toList _ hf hm
  exact ⟨cs, a, rfl, ha⟩
/-- at the top: a slice -/
theorem topM_slice {t e : TypeId} {c : Nat} (ht : P.underlying t = some (.slice e)) (hc : P.cellsOf e = c) (hc0 : 0 < c) {α : Type} {is : List Value → α → Prop} (hd : OpensM M enc0 W e is) (hl : ∀ cs a, is cs a → cs.length = c) {base : Nat} {v : Value} {d : DataW H} {ps : List MemPlace} (hv : Value.okWide P W .any base t v) (h : DataW.Trod enc0 P W 0 (fun _ => true) true t v d ps) (hm : M.ok t d) : ∃ l, SlX W is c v l ∧ M.lim e l.length := by
  obtain ⟨a0, len, cap, rfl⟩ := okWide_slice ht hv
  obtain ⟨fuel, hf⟩ := h
  have hf' : DataW.trod enc0 P W 0 (fun _ => true) true fuel t [.slice a0 len cap] = some (d, ps) := hf
  obtain ⟨l, ⟨v', hv', hs⟩, hlim⟩ := opensM_slice ht hc hc0 hd hl _ _ _ hf' hm
  obtain rfl : Value.slice a0 len cap = v' := by simpa using hv'
  exact ⟨l, hs, hlim⟩
end
/-- a slice of elements whose cells are told by a function -/
theorem SlX.flat {α : Type} {W : World} {is : List Value → α → Prop} {f : α → List Value} {c : Nat} {v : Value} {l : List α} (h : SlX W is c v l) (hc : ∀ a, (f a).length = c) (hc0 : 0 < c) (hf : ∀ cs a, is cs a → cs = f a) : Sl W v l.length (l.flatMap f) := by
  obtain ⟨base, cap, h1, h2, h3, h4⟩ := h
  refine ⟨base, cap, h1, h2, h3, fun h0 => ?_⟩
  obtain ⟨b, off, h5, h6⟩ := h4 h0
  refine ⟨b, off, h5, fun j u hj => ?_⟩
  have hjl := (List.getElem?_eq_some_iff.1 hj).1
  rw [flatMap_len hc] at hjl
  have hi : j / c < l.length := (Nat.div_lt_iff_lt_mul hc0).2 hjl
  have hmod := Nat.mod_lt j hc0
  have hdm : j / c * c + j % c = j := by rw [Nat.mul_comm]; exact Nat.div_add_mod j c
  obtain ⟨cs, h7, h8⟩ := h6 (j / c) hi
  rw [hf _ _ h7] at h8
  have h9 := flatMap_get hc l (j / c) (j % c) l[j / c] (List.getElem?_eq_getElem hi) hmod
  rw [hdm] at h9
  rw [h9] at hj
  have := h8 (j % c) u hj
  rw [Nat.add_assoc, hdm] at this
  exact this
end Go.Proofs.YtkcnoompimohnaaDoor.eng

/- Shp -/
namespace Go.Proofs.YtkcnoompimohnaaDoor.eng
open Go.RowKit kit mix
/-- how a datum reads, all of its blocks being in F -/
structure Shp (α : Type) where
  c : Nat
  is : (Nat → Prop) → World → List Value → α → Prop
  len : ∀ {F w cs a}, is F w cs a → cs.length = c
  stay : ∀ {F w w' cs a}, is F w cs a → (∀ k, F k → w'.heap[k]? = w.heap[k]?) → is F w' cs a
  mono : ∀ {F F' w cs a}, is F w cs a → (∀ k, F k → F' k) → is F' w cs a
def All : Nat → Prop := fun _ => True
theorem rd_stay {w w' : World} {b off : Nat} {cs : List Value} (h : Rd w b off cs) (hk : w'.heap[b]? = w.heap[b]?) : Rd w' b off cs := fun j u hj => by
  rw [World.cell?_of_block (w := w) (a := ⟨b, off + j, none⟩) hk]; exact h j u hj
/-- a slice -/
def SlF {α : Type} (s : Shp α) (F : Nat → Prop) (w : World) (v : Value) (l : List α) : Prop :=
  ∃ base cap, v = .slice base l.length cap ∧ l.length ≤ cap ∧ cap ≤ maxLen ∧ (0 < l.length → ∃ b off, base = some ⟨b, off, none⟩ ∧ F b ∧ ∀ i (h : i < l.length), ∃ cs, s.is F w cs l[i] ∧ Rd w b (off + i * s.c) cs)
section
variable {α β : Type} {s : Shp α} {F F' : Nat → Prop} {w w' : World} {v : Value} {l : List α}
theorem SlF.stay (h : SlF s F w v l) (hk : ∀ k, F k → w'.heap[k]? = w.heap[k]?) : SlF s F w' v l :=
  let ⟨base, cap, h1, h2, h3, h4⟩ := h
  ⟨base, cap, h1, h2, h3, fun h0 => let ⟨b, off, h5, h6, h7⟩ := h4 h0; ⟨b, off, h5, h6, fun i hi => let ⟨cs, h8, h9⟩ := h7 i hi; ⟨cs, s.stay h8 hk, rd_stay h9 (hk b h6)⟩⟩⟩
theorem SlF.mono (h : SlF s F w v l) (hk : ∀ k, F k → F' k) : SlF s F' w v l :=
  let ⟨base, cap, h1, h2, h3, h4⟩ := h
  ⟨base, cap, h1, h2, h3, fun h0 => let ⟨b, off, h5, h6, h7⟩ := h4 h0; ⟨b, off, h5, hk b h6, fun i hi => let ⟨cs, h8, h9⟩ := h7 i hi; ⟨cs, s.mono h8 hk, h9⟩⟩⟩
theorem SlF.nil : SlF s F w (.slice none 0 0) [] := ⟨none, 0, rfl, Nat.le_refl _, by decide, fun h => by simp at h⟩
/-- cells that a function tells -/
def flatS (f : α → List Value) (c : Nat) (hc : ∀ a, (f a).length = c) (p : α → Prop) : Shp α :=
  ⟨c, fun _ _ cs a => cs = f a ∧ p a, fun h => by rw [h.1, hc], fun h _ => h, fun h _ => h⟩
def intS : Shp Int := flatS (fun n => [.int .i64 n]) 1 (fun _ => rfl) kit.okI64
def boolS : Shp Bool := flatS (fun b => [.bool b]) 1 (fun _ => rfl) (fun _ => True)
def strS : Shp (List UInt8) := flatS (fun s => [str s]) 1 (fun _ => rfl) (fun s => s.length ≤ 9223372036854775807)
def sliceS (s : Shp α) : Shp (List α) :=
  ⟨1, fun F w cs l => ∃ v, cs = [v] ∧ SlF s F w v l, fun ⟨_, h, _⟩ => by rw [h]; rfl, fun ⟨v, h1, h2⟩ hk => ⟨v, h1, h2.stay hk⟩, fun ⟨v, h1, h2⟩ hk => ⟨v, h1, h2.mono hk⟩⟩
/-- one behind the other -/
def pairS (s : Shp α) (t : Shp β) : Shp (α × β) :=
  ⟨s.c + t.c, fun F w cs x => ∃ c1 c2, cs = c1 ++ c2 ∧ s.is F w c1 x.1 ∧ t.is F w c2 x.2, fun ⟨_, _, h, h1, h2⟩ => by rw [h, List.length_append, s.len h1, t.len h2],
    fun ⟨c1, c2, h, h1, h2⟩ hk => ⟨c1, c2, h, s.stay h1 hk, t.stay h2 hk⟩, fun ⟨c1, c2, h, h1, h2⟩ hk => ⟨c1, c2, h, s.mono h1 hk, t.mono h2 hk⟩⟩
/-- a slice of flat elements -/
theorem SlF.flat {f : α → List Value} {c : Nat} {hc : ∀ a, (f a).length = c} {p : α → Prop} (hc0 : 0 < c) (h : SlF (flatS f c hc p) F w v l) : Sl w v l.length (l.flatMap f) := by
  obtain ⟨base, cap, h1, h2, h3, h4⟩ := h
  have hx : SlX w (fun cs a => cs = f a) c v l := ⟨base, cap, h1, h2, h3, fun h0 => let ⟨b, off, h5, _, h7⟩ := h4 h0; ⟨b, off, h5, fun i hi => let ⟨cs, h8, h9⟩ := h7 i hi; ⟨cs, h8.1, h9⟩⟩⟩
  exact hx.flat hc hc0 fun cs a h => h
theorem SlF.okp {f : α → List Value} {c : Nat} {hc : ∀ a, (f a).length = c} {p : α → Prop} (h : SlF (flatS f c hc p) F w v l) : ∀ a ∈ l, p a := fun a ha => by
  obtain ⟨i, hi, rfl⟩ := List.mem_iff_getElem.1 ha
  obtain ⟨base, cap, h1, h2, h3, h4⟩ := h
  obtain ⟨b, off, _, _, h7⟩ := h4 (by omega)
  obtain ⟨cs, h8, _⟩ := h7 i hi
  exact h8.2
theorem SlF.of_flat {f : α → List Value} {c : Nat} {hc : ∀ a, (f a).length = c} {p : α → Prop} (h : Sl w v l.length (l.flatMap f)) (hp : ∀ a ∈ l, p a) (hF : ∀ b, v.ownBlock = some b → F b) (hF2 : ∀ a n cp, v = .slice (some a) n cp → F a.block) : SlF (flatS f c hc p) F w v l := by
  obtain ⟨base, cap, h1, h2, h3, h4⟩ := h
  refine ⟨base, cap, h1, h2, h3, fun h0 => ?_⟩
  obtain ⟨b, off, h5, h6⟩ := h4 h0
  refine ⟨b, off, h5, hF2 ⟨b, off, none⟩ l.length cap (by rw [h1, h5]), fun i hi => ⟨f l[i], ⟨rfl, hp _ (List.getElem_mem hi)⟩, fun j u hj => ?_⟩⟩
  have hjc : j < c := by rw [← hc l[i]]; exact (List.getElem?_eq_some_iff.1 hj).1
  have := h6 (i * c + j) u (by rw [get_el hc l i j hi hjc]; exact hj)
  rw [Nat.add_assoc]
  exact this
/-- owned whole -/
def shpO (s : Shp α) (F : Nat → Prop) (cs : List Value) (a : α) : Own :=
  ⟨none, F, fun w => s.is F w cs a ∧ ∀ k, F k → k < w.heap.size, fun w h k hk => h.2 k (hk.elim (fun h => by cases h) id), fun w w' h hs hb => ⟨s.stay h.1 fun k hk => hb k (.inr hk), fun k hk => Nat.lt_of_lt_of_le (h.2 k hk) hs⟩⟩
/-- elements, their cells lying elsewhere -/
def elsO (s : Shp α) (F : Nat → Prop) (css : List (List Value)) (l : List α) : Own :=
  ⟨none, F, fun w => (css.length = l.length ∧ ∀ i (h : i < l.length) (h' : i < css.length), s.is F w css[i] l[i]) ∧ ∀ k, F k → k < w.heap.size, fun w h k hk => h.2 k (hk.elim (fun h => by cases h) id),
    fun w w' h hs hb => ⟨⟨h.1.1, fun i hi hi' => s.stay (h.1.2 i hi hi') fun k hk => hb k (.inr hk)⟩, fun k hk => Nat.lt_of_lt_of_le (h.2 k hk) hs⟩⟩
end
def Or1 (F : Nat → Prop) (v : Value) : Nat → Prop := fun k => F k ∨ v.ownBlock = some k
theorem flatten_get {c : Nat} : ∀ (css : List (List Value)) (hc : ∀ x ∈ css, x.length = c) (i j : Nat) (h : i < css.length), j < c → css.flatten[i * c + j]? = css[i][j]?
  | x :: r, hc, 0, j, h, hj => by
    rw [List.flatten_cons, List.getElem?_append_left (by rw [hc x (by simp)]; omega)]; simp
  | x :: r, hc, i + 1, j, h, hj => by
    have hx := hc x (by simp)
    have ih := flatten_get r (fun y hy => hc y (by simp [hy])) i j (by simpa using h) hj
    rw [List.flatten_cons, List.getElem?_append_right (by rw [hx, Nat.succ_mul]; omega), hx]
    simp only [List.getElem_cons_succ]
    rw [← ih, Nat.succ_mul]
    congr 1; omega
section
variable {α : Type} {s : Shp α} {F : Nat → Prop} {w : World} {v : Value} {l : List α}
/-- a row and its elements' own memory make a slice -/
theorem slf_of {e : TypeId} {css : List (List Value)} (hr : (rowO e s.c v l.length css.flatten).holds w) (he : (elsO s F css l).holds w) (hc0 : 0 < s.c) : SlF s (Or1 F v) w v l := by
  have hr : w.ownsRow 0 e s.c v l.length css.flatten := hr
  obtain ⟨⟨h1, h2⟩, h3⟩ := he
  have hlen : ∀ x ∈ css, x.length = s.c := fun x hx => by
    obtain ⟨i, hi, rfl⟩ := List.mem_iff_getElem.1 hx
    exact s.len (h2 i (by omega) hi)
  obtain ⟨base, cap, h4, h5, h6, h7⟩ := Sl.of_own hr
  refine ⟨base, cap, h4, h5, h6, fun h0 => ?_⟩
  have hb : ∃ g, v = .slice (some ⟨g, 0, none⟩) l.length cap ∧ v.ownBlock = some g := by
    rcases hr.2 with ⟨hv, h0'⟩ | ⟨g, cap', cur, hv, _⟩
    · omega
    · rw [h4] at hv
      simp only [Value.slice.injEq, true_and] at hv
      obtain ⟨rfl, rfl⟩ := hv
      exact ⟨g, h4, by rw [h4]; rfl⟩
  obtain ⟨g, hv, hg⟩ := hb
  rw [h4] at hv
  simp only [Value.slice.injEq, and_true] at hv
  subst hv
  obtain ⟨b, off, h8, h9⟩ := h7 h0
  simp only [Option.some.injEq, Addr.mk.injEq, and_true] at h8
  obtain ⟨rfl, rfl⟩ := h8
  refine ⟨g, 0, rfl, .inr hg, fun i hi => ⟨css[i]'(by omega), s.mono (h2 i hi (by omega)) fun k hk => .inl hk, fun j u hj => ?_⟩⟩
  have hjc : j < s.c := by rw [← hlen (css[i]'(by omega)) (List.getElem_mem _)]; exact (List.getElem?_eq_some_iff.1 hj).1
  have := h9 (i * s.c + j) u (by rw [flatten_get css hlen i j (by omega) hjc]; exact hj)
  rw [Nat.add_assoc]
  exact this
theorem slO_lt {e : TypeId} {css : List (List Value)} {n c : Nat} (hr : (rowO e c v n css.flatten).holds w) (he : (elsO s F css l).holds w) : ∀ k, Or1 F v k → k < w.heap.size := fun k hk => hk.elim (he.2 k) fun h => ((rowO e c v n css.flatten).lt w hr k (.inl h))
/-- one element more -/
theorem els_snoc {F2 : Nat → Prop} {css : List (List Value)} {cs : List Value} {a : α} (he : (elsO s F css l).holds w) (hs : s.is F2 w cs a) (h2 : ∀ k, F2 k → k < w.heap.size) : (elsO s (fun k => F k ∨ F2 k) (css ++ [cs]) (l ++ [a])).holds w := by
  obtain ⟨⟨h1, h3⟩, h4⟩ := he
  refine ⟨⟨by simp [h1], fun i hi hi' => ?_⟩, fun k hk => hk.elim (h4 k) (h2 k)⟩
  by_cases c : i < l.length
  · rw [List.getElem_append_left (by omega), List.getElem_append_left c]
    exact s.mono (h3 i c (by omega)) fun k hk => .inl hk
  · have hi2 : i = l.length := by simp at hi; omega
    subst hi2
    rw [List.getElem_append_right (by omega), List.getElem_append_right (Nat.le_refl _)]
    simp only [h1, Nat.sub_self, List.getElem_cons_zero]
    exact s.mono hs fun k hk => .inr hk
theorem els_nil : (elsO s (fun _ => False) [] []).holds w := ⟨⟨rfl, fun i h => by simp at h⟩, fun k h => h.elim⟩
end
section
variable {P : Program} {n : Nat} {W : Base} {fr : Fr} {L : List Own} {Q : Exit → Act → World → Prop} {ops : Array Oper} {rest : List Oper} {d : Nat}
theorem Mem.merge2 {w : World} (o : Own) (i j : Nat) (js : List Nat) {o1 o2 : Own} {R : List Own} (h : Mem W L w) (hn : ([i, j] ++ js).Nodup) (h1 : L[i]? = some o1) (h2 : L[j]? = some o2) (hR : R = js.filterMap fun i => L[i]?) (hf : ∀ k, o.foot k → o1.foot k ∨ o2.foot k) (hh : ∀ w, o1.holds w → o2.holds w → o.holds w) : Mem W (R ++ [o]) w := by
  refine Mem.merge o (h.pick ([i, j] ++ js) hn ?_) hf (hh w)
  rw [List.filterMap_append, ← hR]
  congr 1
  rw [List.filterMap_cons_some (by exact h1), List.filterMap_cons_some (by exact h2)]; rfl
theorem TL_merge (o : Own) (i j : Nat) (js : List Nat) {o1 o2 : Own} {R : List Own} (hn : ([i, j] ++ js).Nodup) (h1 : L[i]? = some o1) (h2 : L[j]? = some o2) (hR : R = js.filterMap fun i => L[i]?) (hf : ∀ k, o.foot k → o1.foot k ∨ o2.foot k) (hh : ∀ w, o1.holds w → o2.holds w → o.holds w) (h : TL P n W ops Q rest fr (R ++ [o])) : TL P n W ops Q rest fr L := ⟨fun a w hr hm => h.go a w hr (hm.merge2 o i j js hn h1 h2 hR hf hh)⟩
theorem T_merge {c : Code} (o : Own) (i j : Nat) (js : List Nat) {o1 o2 : Own} {R : List Own} (hn : ([i, j] ++ js).Nodup) (h1 : L[i]? = some o1) (h2 : L[j]? = some o2) (hR : R = js.filterMap fun i => L[i]?) (hf : ∀ k, o.foot k → o1.foot k ∨ o2.foot k) (hh : ∀ w, o1.holds w → o2.holds w → o.holds w) (h : T P n W c Q fr (R ++ [o])) : T P n W c Q fr L := ⟨fun a w hr hm => h.go a w hr (hm.merge2 o i j js hn h1 h2 hR hf hh)⟩
theorem E_merge {e : Exit} (o : Own) (i j : Nat) (js : List Nat) {o1 o2 : Own} {R : List Own} (hn : ([i, j] ++ js).Nodup) (h1 : L[i]? = some o1) (h2 : L[j]? = some o2) (hR : R = js.filterMap fun i => L[i]?) (hf : ∀ k, o.foot k → o1.foot k ∨ o2.foot k) (hh : ∀ w, o1.holds w → o2.holds w → o.holds w) (h : E n W e Q fr (R ++ [o])) : E n W e Q fr L := ⟨fun a w hr hm => h.go a w hr (hm.merge2 o i j js hn h1 h2 hR hf hh)⟩
/-- what needs no memory -/
theorem Mem.extra {w : World} (o : Own) (h : Mem W L w) (hf : ∀ k, ¬ o.foot k) (hh : o.holds w) : Mem W (L ++ [o]) w :=
  h.append (Gr.refl w) (OwnsP.one hh fun k hk => absurd hk (hf k))
theorem T_extra {c : Code} (o : Own) (hf : ∀ k, ¬ o.foot k) (hh : ∀ w, o.holds w) (h : T P n W c Q fr (L ++ [o])) : T P n W c Q fr L := ⟨fun a w hr hm => h.go a w hr (hm.extra o hf (hh w))⟩
theorem TL_extra (o : Own) (hf : ∀ k, ¬ o.foot k) (hh : ∀ w, o.holds w) (h : TL P n W ops Q rest fr (L ++ [o])) : TL P n W ops Q rest fr L := ⟨fun a w hr hm => h.go a w hr (hm.extra o hf (hh w))⟩
theorem E_extra {e : Exit} (o : Own) (hf : ∀ k, ¬ o.foot k) (hh : ∀ w, o.holds w) (h : E n W e Q fr (L ++ [o])) : E n W e Q fr L := ⟨fun a w hr hm => h.go a w hr (hm.extra o hf (hh w))⟩
/-- an element of an own slice is written over -/
theorem TL_setRow {α : Type} {f : α → List Value} {c : Nat} (hc : ∀ a, (f a).length = c) {t e : TypeId} {p x : Operand} {i g off cap k m : Nat} {agg : Bool} {l : List α} {a : α} {v : Value} (hT : Ty P t agg c) (hi : L[i]? = some (rowO e c (.slice (some ⟨g, 0, none⟩) m cap) m (l.flatMap f))) (hp : ev fr p = some (.pointer (some ⟨g, off, none⟩))) (hoff : off = k * c) (hk : k < l.length) (hm0 : m = l.length) (hx : ev fr x = some v) (hv : v.cells = (f a).toArray) (h1 : (f a).all Value.oneCell' = true)
    {ty : TypeId} {pos : String} {after : Array Edge}
    (h : TL P n W ops Q rest fr (L.set i (rowO e c (.slice (some ⟨g, 0, none⟩) m cap) m ((l.set k a).flatMap f)))) :
    TL P n W ops Q (⟨none, .store t p x, ty, pos, after, none⟩ :: rest) fr L := TL_any rfl fun act w hr hm K hK => by
  subst hoff hm0
  have hown : w.ownsRow 0 e c (.slice (some ⟨g, 0, none⟩) l.length cap) l.length (l.flatMap f) := hm.get hi
  have hown' := hown
  rcases hown.2 with ⟨h0, _⟩ | ⟨g', cap', cur, he, hbg, hg, hnc, hcm, hcs, htake⟩
  · cases h0
  simp only [Value.slice.injEq, Option.some.injEq, Addr.mk.injEq, and_true, true_and] at he
  obtain ⟨rfl, rfl⟩ := he
  have hfit : k * c + c ≤ cur.size := by
    have : (k + 1) * c ≤ cap * c := Nat.mul_le_mul_right _ (by omega)
    rw [hcs]; rw [Nat.add_mul, Nat.one_mul] at this; omega
  have hst := run_storeCells_at P g (k * c) e (f a) 0 cur w hg (by simp [hc]; exact hfit) (List.all_eq_true.1 h1)
  simp only [Nat.add_zero, hc] at hst
  have e' : (execOp act.eval ⟨none, .store t p x, ty, pos, after, none⟩).run P w = .ok .skip (w.setRow g (cur.toList.take (k * c) ++ f a ++ cur.toList.drop (k * c + c)).toArray) := by
    simp [execOp, hr.ev hp, hr.ev hx, Instr.storeAt, Instr.sureAddr, storeVar, hT.size, hv, hst, hc]
  unfold Oper.wp; rw [e']
  refine hK _ _ (h.go _ _ (hr.put_none undef) (hm.turn hi ⟨rfl, rfl, rfl, by simp, fun k _ hk => setRow_other w g k _ (fun e => hk (by subst e; rfl))⟩ ?_ fun k hk => .inl hk))
  have hlen := len_el hc l
  refine ⟨by rw [len_el hc]; simp, .inr ⟨g, cap, _, rfl, hbg, setRow_heap w g cur _ e _ hg, hnc, hcm, by simp [hc]; omega, ?_⟩⟩
  have e1 : (l.set k a).flatMap f = (l.flatMap f).take (k * c) ++ f a ++ (l.flatMap f).drop (k * c + c) := by
    have hl1 : ((l.take k).flatMap f).length = k * c := by rw [len_el hc, List.length_take, Nat.min_eq_left (by omega)]
    have hl2 : ((l.take (k + 1)).flatMap f).length = k * c + c := by rw [len_el hc, List.length_take, Nat.min_eq_left (by omega), Nat.add_mul, Nat.one_mul]
    have t1 : (l.flatMap f).take (k * c) = (l.take k).flatMap f := by
      rw [← hl1]
      conv => lhs; rw [← List.take_append_drop k l, List.flatMap_append]
      simp
    have t2 : (l.flatMap f).drop (k * c + c) = (l.drop (k + 1)).flatMap f := by
      rw [← hl2]
      conv => lhs; rw [← List.take_append_drop (k + 1) l, List.flatMap_append]
      simp
    rw [t1, t2, List.set_eq_take_append_cons_drop, if_pos hk]
    simp
  rw [e1, ← htake]
  have hkl : k * c + c ≤ l.length * c := by
    have : (k + 1) * c ≤ l.length * c := Nat.mul_le_mul_right _ (by omega)
    rw [Nat.add_mul, Nat.one_mul] at this; exact this
  simp only [List.take_take, List.take_append, List.length_append, hc, List.length_take, Array.length_toList]
  rw [Nat.min_eq_left (by omega : k * c ≤ cur.size), Nat.min_eq_right (by omega : k * c ≤ l.length * c), Nat.min_eq_left (by omega : k * c ≤ l.length * c)]
  rw [List.take_of_length_le (by rw [hc]; omega : (f a).length ≤ l.length * c - k * c)]
  congr 1
  rw [List.drop_take]
/-- a fact that what is owned tells -/
theorem TL_know {i : Nat} {o : Own} {φ : Prop} (hi : L[i]? = some o) (hφ : ∀ w, o.holds w → φ) (h : φ → TL P n W ops Q rest fr L) : TL P n W ops Q rest fr L := ⟨fun a w hr hm => (h (hφ w (hm.get hi))).go a w hr hm⟩
theorem T_know {c : Code} {i : Nat} {o : Own} {φ : Prop} (hi : L[i]? = some o) (hφ : ∀ w, o.holds w → φ) (h : φ → T P n W c Q fr L) : T P n W c Q fr L := ⟨fun a w hr hm => (h (hφ w (hm.get hi))).go a w hr hm⟩
end
end Go.Proofs.YtkcnoompimohnaaDoor.eng

/- Map -/
namespace Go.Proofs.YtkcnoompimohnaaDoor.eng
open Go.RowKit kit mix
open Go.WideMaps (KeyLaw)
def heldR (v : Value) : Option (DataW Value × List MemPlace) := some (.held v, [])
/-- keys of a map -/
structure KeyT (P : Program) (k : TypeId) (κ : Type) where
  kv : κ → Value
  ok : κ → Prop
  law : KeyLaw P k
  key : ∀ x, ok x → ∃ l, keyOf P k (kv x) = some l
  inj : ∀ x y, kv x = kv y → x = y
section
variable {P : Program} {k : TypeId} {κ : Type}
theorem KeyT.keyed (K : KeyT P k κ) : Maps.Keyed P k := Maps.Keyed.of_law K.law
variable (K : KeyT P k κ)
def MapIs (D : DataW Value) (m : κ → Option Value) (n : Nat) : Prop :=
  Maps.size D = n ∧ ∀ x l, K.ok x → keyOf P k (K.kv x) = some l → match m x with | some v => Maps.has D l = true ∧ (∀ z, D.atKey l z = .held v) | none => Maps.has D l = false
def mapO (g : Nat) (m : κ → Option Value) (n : Nat) : Own :=
  ⟨some g, fun _ => False, fun w => ∃ D, w.ownsMap P k heldR g n D ∧ MapIs K D m n, fun w ⟨D, h, _⟩ q hq => by simp only [Option.some.injEq, or_false] at hq; subst hq; exact h.lt,
    fun w w' ⟨D, ⟨es, clock, hb, h⟩, h2⟩ _ hk => ⟨D, ⟨es, clock, (hk g (.inl rfl)).trans hb, h⟩, h2⟩⟩
theorem map_tight {w : World} {R : Value → Option (DataW Value × List MemPlace)} {b n : Nat} {D : DataW Value} (h : w.ownsMap P k R b n D) : w.ownsMap P k R b (Maps.size D) D := by
  obtain ⟨es, clock, hb, F, hs, rfl⟩ := h
  exact ⟨es, clock, hb, F, by simp [Maps.size, length_sorted], rfl⟩
theorem mapIs_nil : MapIs K (.map []) (fun _ => none) 0 := ⟨rfl, fun _ _ _ _ => rfl⟩
theorem mapIs_put [DecidableEq κ] {w : World} {g n : Nat} {D : DataW Value} {m : κ → Option Value} (ho : w.ownsMap P k heldR g n D) (h : MapIs K D m n) {x : κ} {l : Lit} (hx : K.ok x) (hl : keyOf P k (K.kv x) = some l) (v : Value) :
    MapIs K (D.put l (.held v)) (fun y => if y = x then some v else m y) (if (m x).isSome then n else n + 1) := by
  have hk := K.keyed.key hl
  have ht := ho.tidy K.keyed
  refine ⟨?_, fun y l' hy hl' => ?_⟩
  · have h2 := h.2 x l hx hl
    rw [Maps.size_put ht]
    cases e : m x with
    | none => rw [e] at h2; rw [h2]; simp [h.1]
    | some u => rw [e] at h2; rw [h2.1]; simp [h.1]
  · by_cases e : y = x
    · subst e
      rw [hl] at hl'
      simp only [Option.some.injEq] at hl'; subst hl'
      simp only [if_true]
      exact ⟨Maps.has_put_same ht.isMap hk _, fun z => Maps.atKey_put_same ht.isMap hk _ _⟩
    · have hne : l' ≠ l := fun e' => e (K.inj _ _ (K.keyed.inj (by rw [← e']; exact hl') hl))
      simp only [if_neg e]
      have h2 := h.2 y l' hy hl'
      rw [Maps.has_put_other hne]
      cases e2 : m y with
      | none => rw [e2] at h2; exact h2
      | some u => rw [e2] at h2; exact ⟨h2.1, fun z => by rw [Maps.atKey_put_other hne]; exact h2.2 z⟩
theorem look_of {D : DataW Value} {m : κ → Option Value} {n : Nat} (h : MapIs K D m n) {x : κ} {l : Lit} (hx : K.ok x) (hl : keyOf P k (K.kv x) = some l) (z : Value) : D.atKey l (.held z) = .held ((m x).getD z) ∧ Maps.has D l = (m x).isSome := by
  have h2 := h.2 x l hx hl
  cases e : m x with
  | none => rw [e] at h2; exact ⟨Maps.atKey_of_not_has h2 _, h2⟩
  | some u => rw [e] at h2; exact ⟨h2.2 _, h2.1⟩
section
variable {W : Base} {fr : Fr} {L : List Own} {Q : Exit → Act → World → Prop} {ops : Array Oper} {rest : List Oper} {n d : Nat} {dst : Option Tmp} {ty : TypeId} {pos : String} {after : Array Edge} {guard : Option (Nat × Bool)} {i g c : Nat} {t e : TypeId} {m : κ → Option Value} {x : κ} {z : Value} {xm xk xv : Operand}
theorem rr_look (ht : P.underlying t = some (.map k e)) (hz : ∀ w, (zeroValue e).run P w = .ok z w) (hi : L[i]? = some (mapO K g m c)) (hm : ev fr xm = some (.map (some g))) (hk : ev fr xk = some (K.kv x)) (hx : K.ok x) : RR P n W ⟨dst, .lookup t xm xk false, ty, pos, after, guard⟩ fr L ((m x).getD z) := .mk fun a w hr hw => by
  obtain ⟨D, ho, h⟩ := hw.get hi
  obtain ⟨l, hl⟩ := K.key x hx
  obtain ⟨v, ps, hrun, hv⟩ := ho.lookup K.keyed ht (hz w) (zd := .held z) (zp := []) rfl hl
  have h2 := (look_of K h hx hl z).1
  simp only [heldR, Option.some.injEq, Prod.mk.injEq] at hv
  rw [h2] at hv
  have hv1 : v = (m x).getD z := by simpa using hv.1
  subst hv1
  simp [execOp, hr.ev hm, hr.ev hk, hrun, Result.andThen]
theorem rr_lookOk (ht : P.underlying t = some (.map k e)) (hz : ∀ w, (zeroValue e).run P w = .ok z w) (hi : L[i]? = some (mapO K g m c)) (hm : ev fr xm = some (.map (some g))) (hk : ev fr xk = some (K.kv x)) (hx : K.ok x) : RR P n W ⟨dst, .lookup t xm xk true, ty, pos, after, guard⟩ fr L (.tuple #[(m x).getD z, .bool (m x).isSome]) := .mk fun a w hr hw => by
  obtain ⟨D, ho, h⟩ := hw.get hi
  obtain ⟨l, hl⟩ := K.key x hx
  obtain ⟨v, ps, hrun, hv⟩ := ho.look_ok K.keyed ht (hz w) (zd := .held z) (zp := []) rfl hl
  have h2 := look_of K h hx hl z
  simp only [heldR, Option.some.injEq, Prod.mk.injEq] at hv
  rw [h2.1] at hv
  rw [h2.2] at hrun
  have hv1 : v = (m x).getD z := by simpa using hv.1
  subst hv1
  simp [execOp, hr.ev hm, hr.ev hk, hrun, Result.andThen]
theorem rr_maplen (ht : P.underlying t = some (.map k e)) (hi : L[i]? = some (mapO K g m c)) (hm : ev fr xm = some (.map (some g))) : RR P n W ⟨dst, .call { callee := .builtin .len, args := #[xm], argTypes := #[t] }, ty, pos, after, guard⟩ fr L (.int .i64 c) := .mk fun a w hr hw => by
  obtain ⟨D, ho, h⟩ := hw.get hi
  have hrun := ho.len ht ty
  rw [h.1] at hrun
  simp [BigFrame.execOp_builtin, BigFrame.builtin_len, hr.ev hm, hrun]
theorem TL_map (hn : Nat.blt d n = true) (h : ∀ g, TL P n W ops Q rest ((d, .map (some g)) :: fr) (L ++ [mapO K g (fun _ => none) 0])) :
    TL P n W ops Q (⟨some d, .makeMap t none, ty, pos, after, none⟩ :: rest) fr L := TL_any rfl fun a w hr hm KK hK => by
  have e1 : (execOp a.eval ⟨some d, .makeMap t none, ty, pos, after, none⟩).run P w = .ok (.value (.map (some w.heap.size))) (w.alloc (.map #[] 0)) := by
    simp [execOp, run_makeMap, Result.andThen]
  unfold Oper.wp; rw [e1]
  exact hK _ _ ((h w.heap.size).go _ _ (hr.put hn _) (hm.append (gr_alloc w _) (Owns.one ⟨.map [], World.ownsMap_made w P k heldR, mapIs_nil K⟩ fun q hq => by simp only [mapO, Option.some.injEq] at hq; omega)))
theorem map_put [DecidableEq κ] {w : World} (ht : P.underlying t = some (.map k e)) (h : (mapO K g m c).holds w) (hx : K.ok x) (hc : c ≤ 1152921504606846976) (v : Value) :
    ∃ w', (Instr.mapUpdate t (.map (some g)) (K.kv x) v).run P w = .ok () w' ∧ (mapO K g (fun y => if y = x then some v else m y) (if (m x).isSome then c else c + 1)).holds w' ∧ w.grownBy w' (some g) := by
  obtain ⟨D, ho, h⟩ := h
  obtain ⟨l, hl⟩ := K.key x hx
  obtain ⟨w', hrun, ho', hg⟩ := ho.update K.keyed ht (by unfold maxLen; omega) (val := v) (d := .held v) (ps := []) hl rfl
  have hp := mapIs_put K ho h hx hl v
  exact ⟨w', hrun, ⟨_, by have := map_tight ho'; rwa [hp.1] at this, hp⟩, hg⟩
theorem TL_mapSet [DecidableEq κ] {v : Value} (ht : P.underlying t = some (.map k e)) (hi : L[i]? = some (mapO K g m c)) (hm : ev fr xm = some (.map (some g))) (hk : ev fr xk = some (K.kv x)) (hv : ev fr xv = some v) (hx : K.ok x) (hc : c ≤ 1152921504606846976)
    (h : TL P n W ops Q rest fr (L.set i (mapO K g (fun y => if y = x then some v else m y) (if (m x).isSome then c else c + 1)))) :
    TL P n W ops Q (⟨none, .mapUpdate t xm xk xv, ty, pos, after, none⟩ :: rest) fr L := TL_any rfl fun a w hr hw KK hK => by
  obtain ⟨w', hrun, ho', hg⟩ := map_put K ht (hw.get hi) hx hc v
  have e1 : (execOp a.eval ⟨none, .mapUpdate t xm xk xv, ty, pos, after, none⟩).run P w = .ok .skip w' := by
    simp [execOp, hr.ev hm, hr.ev hk, hr.ev hv, hrun, Result.andThen]
  unfold Oper.wp; rw [e1]
  exact hK _ _ (h.go _ _ (hr.put_none undef) (hw.turn hi hg ho' fun q hq => .inl hq))
end
/-! maps with a value for every key: what is not there counts as zero; b bounds how many keys there are -/
def mapT (g : Nat) (z : Value) (f : κ → Value) (b : Nat) : Own :=
  ⟨some g, fun _ => False, fun w => ∃ m n, n ≤ b ∧ (mapO K g m n).holds w ∧ ∀ x, K.ok x → (m x).getD z = f x, fun w ⟨m, n, _, h, _⟩ q hq => (mapO K g m n).lt w h q hq,
    fun w w' ⟨m, n, h1, h, h2⟩ hs hk => ⟨m, n, h1, (mapO K g m n).stay w w' h hs hk, h2⟩⟩
section
variable {W : Base} {fr : Fr} {L : List Own} {Q : Exit → Act → World → Prop} {ops : Array Oper} {rest : List Oper} {n d : Nat} {dst : Option Tmp} {ty : TypeId} {pos : String} {after : Array Edge} {guard : Option (Nat × Bool)} {i g b : Nat} {t e : TypeId} {f f' : κ → Value} {x : κ} {z v : Value} {xm xk xv : Operand}
theorem run_lookT {w : World} (ht : P.underlying t = some (.map k e)) (hz : ∀ w, (zeroValue e).run P w = .ok z w) (h : (mapT K g z f b).holds w) (hx : K.ok x) : (Instr.lookup t (.map (some g)) (K.kv x) false).run P w = .ok (f x) w := by
  obtain ⟨m, n, _, ⟨D, ho, hi⟩, hf⟩ := h
  obtain ⟨l, hl⟩ := K.key x hx
  obtain ⟨v, ps, hrun, hv⟩ := ho.lookup K.keyed ht (hz w) (zd := .held z) (zp := []) rfl hl
  have h2 := (look_of K hi hx hl z).1
  simp only [heldR, Option.some.injEq, Prod.mk.injEq] at hv
  rw [h2, hf x hx] at hv
  have hv1 : v = f x := by simpa using hv.1
  rw [← hv1]; exact hrun
/-- a map that is known, whichever way -/
theorem rr_lookM (ht : P.underlying t = some (.map k e)) (hz : ∀ w, (zeroValue e).run P w = .ok z w) (hh : ∀ w, Mem W L w → (mapT K g z f b).holds w) (hm : ev fr xm = some (.map (some g))) (hk : ev fr xk = some (K.kv x)) (hx : K.ok x) (hv : f x = v) : RR P n W ⟨dst, .lookup t xm xk false, ty, pos, after, guard⟩ fr L v := .mk fun a w hr hw => by
  subst hv
  have hrun := run_lookT K ht hz (hh w hw) hx
  simp [execOp, hr.ev hm, hr.ev hk, hrun, Result.andThen]
theorem rr_lookT (ht : P.underlying t = some (.map k e)) (hz : ∀ w, (zeroValue e).run P w = .ok z w) (hi : L[i]? = some (mapT K g z f b)) (hm : ev fr xm = some (.map (some g))) (hk : ev fr xk = some (K.kv x)) (hx : K.ok x) (hv : f x = v) : RR P n W ⟨dst, .lookup t xm xk false, ty, pos, after, guard⟩ fr L v :=
  rr_lookM K ht hz (fun _ hw => hw.get hi) hm hk hx hv
theorem TL_mapT (hn : Nat.blt d n = true) (h : ∀ g, TL P n W ops Q rest ((d, .map (some g)) :: fr) (L ++ [mapT K g z (fun _ => z) 0])) :
    TL P n W ops Q (⟨some d, .makeMap t none, ty, pos, after, none⟩ :: rest) fr L := TL_any rfl fun a w hr hm KK hK => by
  have e1 : (execOp a.eval ⟨some d, .makeMap t none, ty, pos, after, none⟩).run P w = .ok (.value (.map (some w.heap.size))) (w.alloc (.map #[] 0)) := by
    simp [execOp, run_makeMap, Result.andThen]
  unfold Oper.wp; rw [e1]
  exact hK _ _ ((h w.heap.size).go _ _ (hr.put hn _) (hm.append (gr_alloc w _) (Owns.one ⟨fun _ => none, 0, Nat.le_refl _, ⟨.map [], World.ownsMap_made w P k heldR, mapIs_nil K⟩, fun _ _ => rfl⟩ fun q hq => by simp only [mapT, Option.some.injEq] at hq; omega)))
theorem mapT_put [DecidableEq κ] {w : World} (ht : P.underlying t = some (.map k e)) (h : (mapT K g z f b).holds w) (hx : K.ok x) (hc : b ≤ 1152921504606846976) (hf : ∀ y, K.ok y → f' y = if y = x then v else f y) :
    ∃ w', (Instr.mapUpdate t (.map (some g)) (K.kv x) v).run P w = .ok () w' ∧ (mapT K g z f' (b + 1)).holds w' ∧ w.grownBy w' (some g) := by
  obtain ⟨m, n, h1, h2, h3⟩ := h
  obtain ⟨w', hrun, ho, hg⟩ := map_put K ht h2 hx (by omega) v
  refine ⟨w', hrun, ⟨_, _, ?_, ho, fun y hy => ?_⟩, hg⟩
  · split <;> omega
  · rw [hf y hy]
    by_cases e : y = x
    · simp [e]
    · simp only [if_neg e]; exact h3 y hy
theorem TL_mapSetT [DecidableEq κ] (f' : κ → Value) (ht : P.underlying t = some (.map k e)) (hi : L[i]? = some (mapT K g z f b)) (hm : ev fr xm = some (.map (some g))) (hk : ev fr xk = some (K.kv x)) (hv : ev fr xv = some v) (hx : K.ok x) (hc : b ≤ 1152921504606846976) (hf : ∀ y, K.ok y → f' y = if y = x then v else f y)
    (h : TL P n W ops Q rest fr (L.set i (mapT K g z f' (b + 1)))) :
    TL P n W ops Q (⟨none, .mapUpdate t xm xk xv, ty, pos, after, none⟩ :: rest) fr L := TL_any rfl fun a w hr hw KK hK => by
  obtain ⟨w', hrun, ho', hg⟩ := mapT_put K ht (hw.get hi) hx hc hf
  have e1 : (execOp a.eval ⟨none, .mapUpdate t xm xk xv, ty, pos, after, none⟩).run P w = .ok .skip w' := by
    simp [execOp, hr.ev hm, hr.ev hk, hr.ev hv, hrun, Result.andThen]
  unfold Oper.wp; rw [e1]
  exact hK _ _ (h.go _ _ (hr.put_none undef) (hw.turn hi hg ho' fun q hq => .inl hq))
end
end
end Go.Proofs.YtkcnoompimohnaaDoor.eng
namespace Go.Proofs.YtkcnoompimohnaaDoor.eng
open Go.RowKit kit mix
theorem rr_nilc {P : Program} {n : Nat} {W : Base} {fr : Fr} {L : List Own} {dst : Option Tmp} {ty : TypeId} {pos : String} {after : Array Edge} {guard : Option (Nat × Bool)} {x : Operand} {a : Addr} (hx : ev fr x = some (.pointer (some a))) : RR P n W ⟨dst, .nilCheck x, ty, pos, after, guard⟩ fr L (.pointer (some a)) := .mk fun act w hr _ => by
  simp [execOp, hr.ev hx]
end Go.Proofs.YtkcnoompimohnaaDoor.eng
namespace Go.Proofs.YtkcnoompimohnaaDoor.eng
open Go.RowKit kit mix
section
variable {P : Program} {n : Nat} {W : Base} {fr : Fr} {L : List Own} {Q : Exit → Act → World → Prop} {ops : Array Oper} {rest : List Oper} {d : Nat} {ty : TypeId} {pos : String} {after : Array Edge}
/-- 'make([]T, m)', T of one cell: an own row -/
theorem TL_makeRow {t e : TypeId} {x y : Operand} {bytes m : Nat} {k k' : IntKind} {z : Value} [ElC P t e 1 bytes] [ZeroC P e #[z]] (hx : ev fr x = some (.int k (m : Int))) (hy : ev fr y = some (.int k' (m : Int))) (hb : bytes * m ≤ 281474976710656) (h63 : m ≤ 9223372036854775807) (hn : Nat.blt d n = true)
    (h : ∀ g, TL P n W ops Q rest ((d, .slice (some ⟨g, 0, none⟩) m m) :: fr) (L ++ [rowO e 1 (.slice (some ⟨g, 0, none⟩) m m) m (List.replicate m z)])) : TL P n W ops Q (⟨some d, .makeSlice t x y, ty, pos, after, none⟩ :: rest) fr L :=
  TL_makeB hx hy (Nat.le_refl _) hb h63 hn fun g => TL_toRowN (i := L.length) 1 (List.getElem?_concat_length ..) (by rw [size_madeCells]) (Nat.le_refl _) h63 (by
    have e1 : (madeCells #[z] (m * 1)).toList.take (m * 1) = List.replicate m z := by
      rw [made1, Nat.mul_one, List.take_of_length_le (by simp)]
    rw [e1, List.set_append_right _ _ (Nat.le_refl _), Nat.sub_self]
    exact h g)
end
end Go.Proofs.YtkcnoompimohnaaDoor.eng
namespace Go.Proofs.YtkcnoompimohnaaDoor.eng
open Go.RowKit kit mix
section
variable {P : Program} {n : Nat} {W : Base} {fr : Fr} {L : List Own} {Q : Exit → Act → World → Prop} {ops : Array Oper} {rest : List Oper}
/-- something owned, told otherwise -/
theorem Mem.weak {w : World} {i : Nat} {o : Own} (o' : Own) (h : Mem W L w) (hi : L[i]? = some o) (hh : ∀ w, o.holds w → o'.holds w) (hb : ∀ k, o'.blk = some k → o.blk = some k) (hmo : ∀ k, o'.more k → o.foot k := by intro k hk; exact False.elim hk) : Mem W (L.set i o') w :=
  h.turn hi ⟨rfl, rfl, rfl, Nat.le_refl _, fun _ _ _ => rfl⟩ (hh w (h.get hi)) (fun k hk => .inl (hb k hk)) hmo
theorem T_weak {c : Code} {i : Nat} {o : Own} (o' : Own) (hi : L[i]? = some o) (hh : ∀ w, o.holds w → o'.holds w) (hb : ∀ k, o'.blk = some k → o.blk = some k) (hmo : ∀ k, o'.more k → o.foot k) (h : T P n W c Q fr (L.set i o')) : T P n W c Q fr L := .mk fun a w hr hm => h.go a w hr (hm.weak o' hi hh hb hmo)
theorem TL_weak {i : Nat} {o : Own} (o' : Own) (hi : L[i]? = some o) (hh : ∀ w, o.holds w → o'.holds w) (hb : ∀ k, o'.blk = some k → o.blk = some k) (hmo : ∀ k, o'.more k → o.foot k) (h : TL P n W ops Q rest fr (L.set i o')) : TL P n W ops Q rest fr L := .mk fun a w hr hm => h.go a w hr (hm.weak o' hi hh hb hmo)
theorem E_weak {e : Exit} {i : Nat} {o : Own} (o' : Own) (hi : L[i]? = some o) (hh : ∀ w, o.holds w → o'.holds w) (hb : ∀ k, o'.blk = some k → o.blk = some k) (hmo : ∀ k, o'.more k → o.foot k) (h : E n W e Q fr (L.set i o')) : E n W e Q fr L := .mk fun a w hr hm => h.go a w hr (hm.weak o' hi hh hb hmo)
end
theorem mapT_weak {P : Program} {k : TypeId} {κ : Type} {K : KeyT P k κ} {g b b' : Nat} {z : Value} {f f' : κ → Value} (hb : b ≤ b') (hf : ∀ x, K.ok x → f' x = f x) (w : World) (h : (mapT K g z f b).holds w) : (mapT K g z f' b').holds w := by
  obtain ⟨m, n, h1, h2, h3⟩ := h
  exact ⟨m, n, by omega, h2, fun x hx => by rw [hf x hx]; exact h3 x hx⟩
end Go.Proofs.YtkcnoompimohnaaDoor.eng
namespace Go.Proofs.YtkcnoompimohnaaDoor.eng
open Go.RowKit kit mix
section
variable {P : Program} {n : Nat} {W : Base} {fr : Fr} {L : List Own} {Q : Exit → Act → World → Prop} {ops : Array Oper} {rest : List Oper}
/-- something owned, seen as something else in no more memory -/
theorem Mem.reown {w : World} {i : Nat} {o : Own} (o' : Own) (h : Mem W L w) (hi : L[i]? = some o) (hh : ∀ w, o.holds w → o'.holds w) (hf : ∀ k, o'.foot k → o.foot k) : Mem W (L.set i o') w := by
  have hlen : i < L.length := (List.getElem?_eq_some_iff.1 hi).1
  have hoi := h.owns.all i o hi
  refine ⟨h.low, fun j q hj => ?_, fun j j' q q' hij hj hj' k hk hk' => ?_⟩
  · by_cases e : i = j
    · subst e
      rw [List.getElem?_set_self hlen] at hj
      simp only [Option.some.injEq] at hj; subst hj
      exact ⟨hh w hoi.1, fun k hk => hoi.2 k (hf k hk)⟩
    · rw [List.getElem?_set_ne e] at hj
      exact h.owns.all j q hj
  · by_cases e : i = j
    · subst e
      rw [List.getElem?_set_self hlen] at hj
      rw [List.getElem?_set_ne hij] at hj'
      simp only [Option.some.injEq] at hj; subst hj
      exact h.owns.apart i j' o q' hij hi hj' k (hf k hk) hk'
    · rw [List.getElem?_set_ne e] at hj
      by_cases e' : i = j'
      · subst e'
        rw [List.getElem?_set_self hlen] at hj'
        simp only [Option.some.injEq] at hj'; subst hj'
        exact h.owns.apart j i q o hij hj hi k hk (hf k hk')
      · rw [List.getElem?_set_ne e'] at hj'
        exact h.owns.apart j j' q q' hij hj hj' k hk hk'
theorem T_reown {c : Code} {i : Nat} {o : Own} (o' : Own) (hi : L[i]? = some o) (hh : ∀ w, o.holds w → o'.holds w) (hf : ∀ k, o'.foot k → o.foot k) (h : T P n W c Q fr (L.set i o')) : T P n W c Q fr L := .mk fun a w hr hm => h.go a w hr (hm.reown o' hi hh hf)
theorem TL_reown {i : Nat} {o : Own} (o' : Own) (hi : L[i]? = some o) (hh : ∀ w, o.holds w → o'.holds w) (hf : ∀ k, o'.foot k → o.foot k) (h : TL P n W ops Q rest fr (L.set i o')) : TL P n W ops Q rest fr L := .mk fun a w hr hm => h.go a w hr (hm.reown o' hi hh hf)
theorem E_reown {e : Exit} {i : Nat} {o : Own} (o' : Own) (hi : L[i]? = some o) (hh : ∀ w, o.holds w → o'.holds w) (hf : ∀ k, o'.foot k → o.foot k) (h : E n W e Q fr (L.set i o')) : E n W e Q fr L := .mk fun a w hr hm => h.go a w hr (hm.reown o' hi hh hf)
end
end Go.Proofs.YtkcnoompimohnaaDoor.eng

/- ClassB -/
namespace Go.Proofs.YtkcnoompimohnaaDoor
open Go.RowKit kit mix classL
attribute [local go_sem] and64 or64 xor64 not64
theorem cls_cells {w : World} {g : Nat} {x : C4} (h : Wr w g 0 (clsL x)) : w.cell? ⟨g, 0, none⟩ = some (v64 x.a) ∧ w.cell? ⟨g, 1, none⟩ = some (v64 x.b) ∧ w.cell? ⟨g, 2, none⟩ = some (v64 x.c) ∧ w.cell? ⟨g, 3, none⟩ = some (v64 x.d) :=
  ⟨(h 0 _ rfl).1, (h 1 _ rfl).1, (h 2 _ rfl).1, (h 3 _ rfl).1⟩
theorem cls_block {w : World} {g : Nat} {x : C4} {T : TypeId} (h : w.heap[g]? = some (.cells #[.int .u64 (n64 x.a), .int .u64 (n64 x.b), .int .u64 (n64 x.c), .int .u64 (n64 x.d)] T (0, 0))) : Wr w g 0 (clsL x) := fun j u hj => by
  rw [Nat.zero_add, cell_of_row w g j _ T (0, 0) h]
  exact ⟨by simpa [clsL] using hj, frozen_of_row w g j _ T h⟩
/-- three classes laid one behind the other -/
theorem box_cls {w : World} {B : Nat} (hB : w.heap.size = B) (x : C4) (T : TypeId) : Wr (w.alloc (.cells #[.int .u64 (n64 x.a), .int .u64 (n64 x.b), .int .u64 (n64 x.c), .int .u64 (n64 x.d)] T)) B 0 (clsL x) :=
  cls_block (blk_new w _ B hB)
theorem gr_alloc (w : World) (o : Obj) : Below w.heap.size w (w.alloc o) := (Below.refl _ _).alloc (Nat.le_refl _) _
theorem cls_at {w : World} {g : Nat} {x : C4} (h : Wr w g 0 (clsL x)) (i : Nat) (hi : i < 4) : w.cell? ⟨g, i, none⟩ = some (.int .u64 (n64 (x.get i))) ∧ w.frozen? ⟨g, i, none⟩ = false := by
  have := h i _ (clsL_get x i hi)
  rw [Nat.zero_add] at this
  exact this
theorem cls_store {w : World} {g : Nat} {x : C4} (h : Wr w g 0 (clsL x)) (i : Nat) (hi : i < 4) (v : BitVec 64) : Wr (w.setCell ⟨g, i, none⟩ (.int .u64 (n64 v))) g 0 (clsL (x.set i v)) := by
  have := h.set i (by simp [clsL]; omega) (v64 v)
  rw [Nat.zero_add, clsL_set x i hi v] at this
  exact this
set_option maxHeartbeats 2000000 in
theorem range_calls (lo hi : Int) (w : World) (h1 : okI64 lo) (h2 : okI64 hi) :
    Calls Tryd.prog 15 #[.int .i64 lo, .int .i64 hi] w fun e w' => e = .returned (clsV (rangeF lo hi)) ∧ Below w.heap.size w w' := by
  obtain ⟨l1, l2⟩ := h1
  obtain ⟨m1, m2⟩ := h2
  unfold clsV
  have hstart : Below w.heap.size w ((w.alloc (.cells #[.int .u64 0, .int .u64 0, .int .u64 0, .int .u64 0] 31)).alloc (.cells #[.int .u64 0, .int .u64 0, .int .u64 0, .int .u64 0] 31)) ∧ Wr ((w.alloc (.cells #[.int .u64 0, .int .u64 0, .int .u64 0, .int .u64 0] 31)).alloc (.cells #[.int .u64 0, .int .u64 0, .int .u64 0, .int .u64 0] 31)) w.heap.size 0 (clsL C4.zero) ∧ Wr ((w.alloc (.cells #[.int .u64 0, .int .u64 0, .int .u64 0, .int .u64 0] 31)).alloc (.cells #[.int .u64 0, .int .u64 0, .int .u64 0, .int .u64 0] 31)) (w.heap.size + 1) 0 (clsL C4.zero) :=
    ⟨(((Below.refl _ _).alloc (Nat.le_refl _) _).alloc (by simp) _), ((box_cls rfl C4.zero _).gr (gr_alloc _ _)), (box_cls (by simp) C4.zero _)⟩
  obtain ⟨B, hB⟩ : ∃ B, B = w.heap.size := ⟨_, rfl⟩
  rw [← hB] at hstart
  go_enter Tryd.func15, Tryd.ntmps15
  go_upto_region 2 with (fail)
  rw [← hB]
  have hBle : w.heap.size ≤ B := by omega
  have hBge : B ≤ w.heap.size := by omega
  clear hB
  go_cut [6] (fun s6 w' => w' = ((w.alloc (.cells #[.int .u64 0, .int .u64 0, .int .u64 0, .int .u64 0] 31)).alloc (.cells #[.int .u64 0, .int .u64 0, .int .u64 0, .int .u64 0] 31)) ∧ s6 = .int .i64 (max lo 0))
  case first =>
    go_wp2
    all_goals
      go_meet
      case rel => exact ⟨rfl, by congr 1 <;> omega⟩
  case rest =>
    obtain ⟨rfl, rfl⟩ := hcut
    obtain ⟨b0, hb0⟩ : ∃ b0 : Nat, (b0 : Int) = max lo 0 := ⟨(max lo 0).toNat, by omega⟩
    have hF : rangeF lo hi = C4.bitsFrom C4.zero b0 (min hi 255 + 1 - b0).toNat := by unfold rangeF; rw [← hb0]; rfl
    have HF := Lib.hid hF
    rw [← hb0]
    clear hF hb0
    obtain ⟨hs1, hs2, hs3⟩ := hstart
    obtain ⟨N, hN⟩ : ∃ N, N = (min hi 255 + 1 - b0).toNat := ⟨_, rfl⟩
    have HN := Lib.hid hN
    have hN1 : 0 < N → (b0 : Int) + N = min hi 255 + 1 := fun h => by omega
    have hN0 : N = 0 → min hi 255 < (b0 : Int) := fun h => by omega
    have hN2 : N = 0 ∨ b0 + N ≤ 256 := by omega
    clear hN
    rcases (show 255 < hi ∨ hi ≤ 255 by omega) with hh | hh
    all_goals
      go_wp2_with fail
      go_loopg [6] N (fun g c wr => ∃ i : Nat, i + g = N ∧ c = .int .i64 ((b0 + i : Nat) : Int) ∧ Below B w wr ∧ Wr wr B 0 (clsL C4.zero) ∧ Wr wr (B + 1) 0 (clsL (C4.bitsFrom C4.zero b0 i)))
      case atStart => exact ⟨0, by omega, rfl, hs1, hs2, hs3⟩
      case round =>
        obtain ⟨i, hi', rfl, hb, hr, hx⟩ := hrel
        clear hs1 hs2 hs3
        by_cases hlt : i < N
        · have hbb : ((b0 + i : Nat) : Int) ≤ hi := by have := hN1 (by omega); omega
          have hb255 : b0 + i ≤ 255 := by omega
          have hstep := bit_step C4.zero b0 i
          generalize hbn : b0 + i = b at hbb hb255 hstep ⊢
          have h4 : b / 64 < 4 := by omega
          have cx : ∀ w', Up wr.drew w' → w'.cell? ⟨B + 1, b / 64, none⟩ = some (.int .u64 (n64 ((C4.bitsFrom C4.zero b0 i).get (b / 64)))) := fun w' hw => (cls_at ((hx.gr (Gr.drew _)).gr hw) (b / 64) h4).1
          have hand := i64_and63 b (by omega)
          have hsh := one_shl (b % 64) (Nat.mod_lt _ (by decide))
          have HS0 := Lib.hid hstep
          have HI := Lib.hid hi'
          clear hN1 hN0 hN2 hstep hi'
          go_wp2_with fail
          refine mix 9 (List.replicate 9 true) rfl (by kernel_rfl) (by kernel_rfl) (by intro c a d v w h; cases d <;> exact h) (Up wr.drew) (closed_up _) (Gr.refl _) ?_
          simp only [List.take_succ_cons, List.take_zero, List.drop_succ_cons, List.drop_zero, List.replicate]
          repeat (first
            | (refine wpM_val (by rfl) (fun w hSw => by go_simp; (try (simp only [↓IntWalk.iteOmega]; try go_simp)); (try go_bits); first | done | with_reducible rfl) ?_; simp only [Act.put, List.setIfInBounds_toArray, List.set_cons_zero, List.set_cons_succ])
            | (refine wpM_skip (by rfl) ?_; simp only [Act.put, List.setIfInBounds_toArray, List.set_cons_zero, List.set_cons_succ]))
          refine wpM_end fun w5 hw5 => ?_
          have hx5 := (hx.gr (Gr.drew _)).gr hw5
          have hr5 := (hr.gr (Gr.drew _)).gr hw5
          have hb5 : Below B w w5 := below_gr hb.drew (by have := hb.size; simp; omega) hw5
          obtain ⟨c1, c2⟩ := cls_at hx5 (b / 64) h4
          have hs := cls_store hx5 (b / 64) h4 ((C4.bitsFrom C4.zero b0 i).get (b / 64) ||| BitVec.ofNat 64 (2 ^ (b % 64)))
          have hf1 := hr5.far (a := ⟨B + 1, b / 64, none⟩) (by simp) (.int .u64 (n64 ((C4.bitsFrom C4.zero b0 i).get (b / 64) ||| BitVec.ofNat 64 (2 ^ (b % 64)))))
          have hbs := hb5.setCell (p := ⟨B + 1, b / 64, none⟩) (by simp) (.int .u64 (n64 ((C4.bitsFrom C4.zero b0 i).get (b / 64) ||| BitVec.ofNat 64 (2 ^ (b % 64)))))
          rw [HS0.out] at hs
          have HS := Lib.hid (And.intro hs (And.intro hf1 hbs))
          clear hs hf1 hbs hx5 hr5 hb5 cx hx hr hb hw5 hand hsh
          go_wp2_with fail
          have hi' := HI.out
          go_roundg (gk - 1)
          case measure => omega
          case rel => exact ⟨i + 1, by omega, by go_num, HS.out.2.2, HS.out.2.1, HS.out.1⟩
        · obtain rfl : i = N := by omega
          have hbig : min hi 255 < ((b0 + i : Nat) : Int) := by
            by_cases h0 : i = 0
            · have := hN0 h0; omega
            · have := hN1 (by omega); omega
          have hE : C4.bitsFrom C4.zero b0 i = rangeF lo hi := by rw [HF.out, ← HN.out]
          rw [hE] at hx
          obtain ⟨c0, c1, c2, c3⟩ := cls_cells hx
          obtain ⟨⟨r0, f0⟩, ⟨r1, f1⟩, ⟨r2, f2⟩, ⟨r3, f3⟩⟩ : _ ∧ _ ∧ _ ∧ _ := ⟨cls_at hr 0 (by decide), cls_at hr 1 (by decide), cls_at hr 2 (by decide), cls_at hr 3 (by decide)⟩
          clear hN1 hN0 hN2 hE
          generalize b0 + i = b at *
          have hbig' : ¬ (b : Int) ≤ min hi 255 := by omega
          go_wp2_with fail
          refine bodyPost_ret (v := .agg #[.int .u64 (n64 (rangeF lo hi).a), .int .u64 (n64 (rangeF lo hi).b), .int .u64 (n64 (rangeF lo hi).c), .int .u64 (n64 (rangeF lo hi).d)]) (by simp [results, Tryd.results15, go_sem, r0, r1, r2, r3]) rfl ⟨rfl, ?_⟩
          exact ((((hb.setCell (by simp) _).setCell (by simp) _).setCell (by simp) _).setCell (by simp) _).mono hBle
end Go.Proofs.YtkcnoompimohnaaDoor

/- Class -/
namespace Go.Proofs.YtkcnoompimohnaaDoor
open Go.RowKit kit mix classL
attribute [local go_sem] and64 or64 xor64 not64
set_option maxHeartbeats 2000000 in
theorem join_calls (x y : C4) (w : World) :
    Calls Tryd.prog 48 #[clsV x, clsV y] w fun e w' => e = .returned (clsV (x.join y)) ∧ Below w.heap.size w w' := by
  unfold clsV
  go_enter Tryd.func48, Tryd.ntmps48
  go_wp2_with fail
  obtain ⟨B, hB⟩ : ∃ B, B = w.heap.size := ⟨_, rfl⟩
  have hstart : ∀ (C : C4), Below B w (((w.alloc (.cells #[.int .u64 (n64 x.a), .int .u64 (n64 x.b), .int .u64 (n64 x.c), .int .u64 (n64 x.d)] 31)).alloc (.cells #[.int .u64 (n64 y.a), .int .u64 (n64 y.b), .int .u64 (n64 y.c), .int .u64 (n64 y.d)] 31)).alloc (.cells #[.int .u64 (n64 C.a), .int .u64 (n64 C.b), .int .u64 (n64 C.c), .int .u64 (n64 C.d)] 31)) ∧
      Wr (((w.alloc (.cells #[.int .u64 (n64 x.a), .int .u64 (n64 x.b), .int .u64 (n64 x.c), .int .u64 (n64 x.d)] 31)).alloc (.cells #[.int .u64 (n64 y.a), .int .u64 (n64 y.b), .int .u64 (n64 y.c), .int .u64 (n64 y.d)] 31)).alloc (.cells #[.int .u64 (n64 C.a), .int .u64 (n64 C.b), .int .u64 (n64 C.c), .int .u64 (n64 C.d)] 31)) B 0 (clsL x) ∧
      Wr (((w.alloc (.cells #[.int .u64 (n64 x.a), .int .u64 (n64 x.b), .int .u64 (n64 x.c), .int .u64 (n64 x.d)] 31)).alloc (.cells #[.int .u64 (n64 y.a), .int .u64 (n64 y.b), .int .u64 (n64 y.c), .int .u64 (n64 y.d)] 31)).alloc (.cells #[.int .u64 (n64 C.a), .int .u64 (n64 C.b), .int .u64 (n64 C.c), .int .u64 (n64 C.d)] 31)) (B + 1) 0 (clsL y) ∧
      Wr (((w.alloc (.cells #[.int .u64 (n64 x.a), .int .u64 (n64 x.b), .int .u64 (n64 x.c), .int .u64 (n64 x.d)] 31)).alloc (.cells #[.int .u64 (n64 y.a), .int .u64 (n64 y.b), .int .u64 (n64 y.c), .int .u64 (n64 y.d)] 31)).alloc (.cells #[.int .u64 (n64 C.a), .int .u64 (n64 C.b), .int .u64 (n64 C.c), .int .u64 (n64 C.d)] 31)) (B + 1 + 1) 0 (clsL C) := fun C => by
    subst hB
    exact ⟨((((Below.refl _ _).alloc (Nat.le_refl _) _).alloc (by simp) _).alloc (by simp; omega) _), ((box_cls rfl x _).gr (gr_alloc _ _)).gr (gr_alloc _ _), (box_cls (by simp) y _).gr (gr_alloc _ _), box_cls (by simp) C _⟩
  rw [← hB]
  have hBle : w.heap.size ≤ B := by omega
  have hBge : B ≤ w.heap.size := by omega
  clear hB
  go_loopg [6] 4 (fun g c wr => ∃ i : Nat, i + g = 4 ∧ c = .int .i64 i ∧ Below B w wr ∧ Wr wr B 0 (clsL (x.upto (x.join y) i)) ∧ Wr wr (B + 1) 0 (clsL y) ∧ Wr wr (B + 1 + 1) 0 (clsL C4.zero))
  case atStart => exact ⟨0, by omega, rfl, hstart C4.zero⟩
  case round =>
    obtain ⟨i, hi, rfl, hb, hx, hy, hr⟩ := hrel
    clear hstart
    by_cases h4 : i < 4
    · have cx : ∀ w', Up wr.drew w' → w'.cell? ⟨B, i, none⟩ = some (.int .u64 (n64 (x.get i))) := fun w' hw => by
        have := (cls_at ((hx.gr (Gr.drew _)).gr hw) i h4).1; rwa [upto_get _ _ _ h4] at this
      have cy : ∀ w', Up wr.drew w' → w'.cell? ⟨B + 1, i, none⟩ = some (.int .u64 (n64 (y.get i))) := fun w' hw => (cls_at ((hy.gr (Gr.drew _)).gr hw) i h4).1
      go_wp2_with fail
      refine mix 8 (List.replicate 8 true) rfl (by kernel_rfl) (by kernel_rfl) (by intro c a d v w h; cases d <;> exact h) (Up wr.drew) (closed_up _) (Gr.refl _) ?_
      simp only [List.take_succ_cons, List.take_zero, List.drop_succ_cons, List.drop_zero, List.replicate]
      repeat (first
        | (refine wpM_val (by rfl) (fun w hSw => by go_simp; (try (simp only [↓IntWalk.iteOmega]; try go_simp)); (try go_bits); first | done | with_reducible rfl) ?_; simp only [Act.put, List.setIfInBounds_toArray, List.set_cons_zero, List.set_cons_succ])
        | (refine wpM_skip (by rfl) ?_; simp only [Act.put, List.setIfInBounds_toArray, List.set_cons_zero, List.set_cons_succ]))
      refine wpM_end fun w5 hw5 => ?_
      have hx5 := (hx.gr (Gr.drew _)).gr hw5
      have hy5 := (hy.gr (Gr.drew _)).gr hw5
      have hr5 := (hr.gr (Gr.drew _)).gr hw5
      have hb5 : Below B w w5 := below_gr hb.drew (by have := hb.size; simp; omega) hw5
      obtain ⟨c1, c2⟩ := cls_at hx5 i h4
      have hs := cls_store hx5 i h4 (x.get i ||| y.get i)
      have hf1 := hy5.far (a := ⟨B, i, none⟩) (by simp) (.int .u64 (n64 (x.get i ||| y.get i)))
      have hf2 := hr5.far (a := ⟨B, i, none⟩) (by simp; omega) (.int .u64 (n64 (x.get i ||| y.get i)))
      have hbs := hb5.setCell (p := ⟨B, i, none⟩) (by simp) (.int .u64 (n64 (x.get i ||| y.get i)))
      rw [← join_get, upto_set _ _ _ h4, join_get] at hs
      have HS := Lib.hid (And.intro hs (And.intro hf1 (And.intro hf2 hbs)))
      clear hs hf1 hf2 hbs hx5 hy5 hr5 hb5 cx cy hx hy hr hb hw5
      go_wp2_with fail
      go_roundg (gk - 1)
      case measure => omega
      case rel => exact ⟨i + 1, by omega, by go_num, HS.out.2.2.2, HS.out.1, HS.out.2.1, HS.out.2.2.1⟩
    · obtain rfl : i = 4 := by omega
      rw [upto_all] at hx
      obtain ⟨c0, c1, c2, c3⟩ := cls_cells hx
      obtain ⟨⟨r0, f0⟩, ⟨r1, f1⟩, ⟨r2, f2⟩, ⟨r3, f3⟩⟩ : _ ∧ _ ∧ _ ∧ _ := ⟨cls_at hr 0 (by decide), cls_at hr 1 (by decide), cls_at hr 2 (by decide), cls_at hr 3 (by decide)⟩
      go_wp2_with fail
      refine bodyPost_ret (v := .agg #[.int .u64 (n64 (x.join y).a), .int .u64 (n64 (x.join y).b), .int .u64 (n64 (x.join y).c), .int .u64 (n64 (x.join y).d)]) (by simp [results, Tryd.results48, go_sem, r0, r1, r2, r3]) rfl ⟨rfl, ?_⟩
      exact ((((hb.setCell (by simp; omega) _).setCell (by simp; omega) _).setCell (by simp; omega) _).setCell (by simp; omega) _).mono hBle
set_option maxHeartbeats 2000000 in
theorem meet_calls (x y : C4) (w : World) :
    Calls Tryd.prog 50 #[clsV x, clsV y] w fun e w' => e = .returned (clsV (x.meet y)) ∧ Below w.heap.size w w' := by
  unfold clsV
  go_enter Tryd.func50, Tryd.ntmps50
  go_wp2_with fail
  obtain ⟨B, hB⟩ : ∃ B, B = w.heap.size := ⟨_, rfl⟩
  have hstart : ∀ (C : C4), Below B w (((w.alloc (.cells #[.int .u64 (n64 x.a), .int .u64 (n64 x.b), .int .u64 (n64 x.c), .int .u64 (n64 x.d)] 31)).alloc (.cells #[.int .u64 (n64 y.a), .int .u64 (n64 y.b), .int .u64 (n64 y.c), .int .u64 (n64 y.d)] 31)).alloc (.cells #[.int .u64 (n64 C.a), .int .u64 (n64 C.b), .int .u64 (n64 C.c), .int .u64 (n64 C.d)] 31)) ∧
      Wr (((w.alloc (.cells #[.int .u64 (n64 x.a), .int .u64 (n64 x.b), .int .u64 (n64 x.c), .int .u64 (n64 x.d)] 31)).alloc (.cells #[.int .u64 (n64 y.a), .int .u64 (n64 y.b), .int .u64 (n64 y.c), .int .u64 (n64 y.d)] 31)).alloc (.cells #[.int .u64 (n64 C.a), .int .u64 (n64 C.b), .int .u64 (n64 C.c), .int .u64 (n64 C.d)] 31)) B 0 (clsL x) ∧
      Wr (((w.alloc (.cells #[.int .u64 (n64 x.a), .int .u64 (n64 x.b), .int .u64 (n64 x.c), .int .u64 (n64 x.d)] 31)).alloc (.cells #[.int .u64 (n64 y.a), .int .u64 (n64 y.b), .int .u64 (n64 y.c), .int .u64 (n64 y.d)] 31)).alloc (.cells #[.int .u64 (n64 C.a), .int .u64 (n64 C.b), .int .u64 (n64 C.c), .int .u64 (n64 C.d)] 31)) (B + 1) 0 (clsL y) ∧
      Wr (((w.alloc (.cells #[.int .u64 (n64 x.a), .int .u64 (n64 x.b), .int .u64 (n64 x.c), .int .u64 (n64 x.d)] 31)).alloc (.cells #[.int .u64 (n64 y.a), .int .u64 (n64 y.b), .int .u64 (n64 y.c), .int .u64 (n64 y.d)] 31)).alloc (.cells #[.int .u64 (n64 C.a), .int .u64 (n64 C.b), .int .u64 (n64 C.c), .int .u64 (n64 C.d)] 31)) (B + 1 + 1) 0 (clsL C) := fun C => by
    subst hB
    exact ⟨((((Below.refl _ _).alloc (Nat.le_refl _) _).alloc (by simp) _).alloc (by simp; omega) _), ((box_cls rfl x _).gr (gr_alloc _ _)).gr (gr_alloc _ _), (box_cls (by simp) y _).gr (gr_alloc _ _), box_cls (by simp) C _⟩
  rw [← hB]
  have hBle : w.heap.size ≤ B := by omega
  have hBge : B ≤ w.heap.size := by omega
  clear hB
  go_loopg [6] 4 (fun g c wr => ∃ i : Nat, i + g = 4 ∧ c = .int .i64 i ∧ Below B w wr ∧ Wr wr B 0 (clsL (x.upto (x.meet y) i)) ∧ Wr wr (B + 1) 0 (clsL y) ∧ Wr wr (B + 1 + 1) 0 (clsL C4.zero))
  case atStart => exact ⟨0, by omega, rfl, hstart C4.zero⟩
  case round =>
    obtain ⟨i, hi, rfl, hb, hx, hy, hr⟩ := hrel
    clear hstart
    by_cases h4 : i < 4
    · have cx : ∀ w', Up wr.drew w' → w'.cell? ⟨B, i, none⟩ = some (.int .u64 (n64 (x.get i))) := fun w' hw => by
        have := (cls_at ((hx.gr (Gr.drew _)).gr hw) i h4).1; rwa [upto_get _ _ _ h4] at this
      have cy : ∀ w', Up wr.drew w' → w'.cell? ⟨B + 1, i, none⟩ = some (.int .u64 (n64 (y.get i))) := fun w' hw => (cls_at ((hy.gr (Gr.drew _)).gr hw) i h4).1
      go_wp2_with fail
      refine mix 8 (List.replicate 8 true) rfl (by kernel_rfl) (by kernel_rfl) (by intro c a d v w h; cases d <;> exact h) (Up wr.drew) (closed_up _) (Gr.refl _) ?_
      simp only [List.take_succ_cons, List.take_zero, List.drop_succ_cons, List.drop_zero, List.replicate]
      repeat (first
        | (refine wpM_val (by rfl) (fun w hSw => by go_simp; (try (simp only [↓IntWalk.iteOmega]; try go_simp)); (try go_bits); first | done | with_reducible rfl) ?_; simp only [Act.put, List.setIfInBounds_toArray, List.set_cons_zero, List.set_cons_succ])
        | (refine wpM_skip (by rfl) ?_; simp only [Act.put, List.setIfInBounds_toArray, List.set_cons_zero, List.set_cons_succ]))
      refine wpM_end fun w5 hw5 => ?_
      have hx5 := (hx.gr (Gr.drew _)).gr hw5
      have hy5 := (hy.gr (Gr.drew _)).gr hw5
      have hr5 := (hr.gr (Gr.drew _)).gr hw5
      have hb5 : Below B w w5 := below_gr hb.drew (by have := hb.size; simp; omega) hw5
      obtain ⟨c1, c2⟩ := cls_at hx5 i h4
      have hs := cls_store hx5 i h4 (x.get i &&& y.get i)
      have hf1 := hy5.far (a := ⟨B, i, none⟩) (by simp) (.int .u64 (n64 (x.get i &&& y.get i)))
      have hf2 := hr5.far (a := ⟨B, i, none⟩) (by simp; omega) (.int .u64 (n64 (x.get i &&& y.get i)))
      have hbs := hb5.setCell (p := ⟨B, i, none⟩) (by simp) (.int .u64 (n64 (x.get i &&& y.get i)))
      rw [← meet_get, upto_set _ _ _ h4, meet_get] at hs
      have HS := Lib.hid (And.intro hs (And.intro hf1 (And.intro hf2 hbs)))
      clear hs hf1 hf2 hbs hx5 hy5 hr5 hb5 cx cy hx hy hr hb hw5
      go_wp2_with fail
      go_roundg (gk - 1)
      case measure => omega
      case rel => exact ⟨i + 1, by omega, by go_num, HS.out.2.2.2, HS.out.1, HS.out.2.1, HS.out.2.2.1⟩
    · obtain rfl : i = 4 := by omega
      rw [upto_all] at hx
      obtain ⟨c0, c1, c2, c3⟩ := cls_cells hx
      obtain ⟨⟨r0, f0⟩, ⟨r1, f1⟩, ⟨r2, f2⟩, ⟨r3, f3⟩⟩ : _ ∧ _ ∧ _ ∧ _ := ⟨cls_at hr 0 (by decide), cls_at hr 1 (by decide), cls_at hr 2 (by decide), cls_at hr 3 (by decide)⟩
      go_wp2_with fail
      refine bodyPost_ret (v := .agg #[.int .u64 (n64 (x.meet y).a), .int .u64 (n64 (x.meet y).b), .int .u64 (n64 (x.meet y).c), .int .u64 (n64 (x.meet y).d)]) (by simp [results, Tryd.results50, go_sem, r0, r1, r2, r3]) rfl ⟨rfl, ?_⟩
      exact ((((hb.setCell (by simp; omega) _).setCell (by simp; omega) _).setCell (by simp; omega) _).setCell (by simp; omega) _).mono hBle
set_option maxHeartbeats 2000000 in
theorem not_calls (x : C4) (w : World) :
    Calls Tryd.prog 51 #[clsV x] w fun e w' => e = .returned (clsV x.not) ∧ Below w.heap.size w w' := by
  unfold clsV
  go_enter Tryd.func51, Tryd.ntmps51
  go_wp2_with fail
  obtain ⟨B, hB⟩ : ∃ B, B = w.heap.size := ⟨_, rfl⟩
  have hstart : ∀ (C : C4), Below B w ((w.alloc (.cells #[.int .u64 (n64 x.a), .int .u64 (n64 x.b), .int .u64 (n64 x.c), .int .u64 (n64 x.d)] 31)).alloc (.cells #[.int .u64 (n64 C.a), .int .u64 (n64 C.b), .int .u64 (n64 C.c), .int .u64 (n64 C.d)] 31)) ∧ Wr ((w.alloc (.cells #[.int .u64 (n64 x.a), .int .u64 (n64 x.b), .int .u64 (n64 x.c), .int .u64 (n64 x.d)] 31)).alloc (.cells #[.int .u64 (n64 C.a), .int .u64 (n64 C.b), .int .u64 (n64 C.c), .int .u64 (n64 C.d)] 31)) B 0 (clsL x) ∧ Wr ((w.alloc (.cells #[.int .u64 (n64 x.a), .int .u64 (n64 x.b), .int .u64 (n64 x.c), .int .u64 (n64 x.d)] 31)).alloc (.cells #[.int .u64 (n64 C.a), .int .u64 (n64 C.b), .int .u64 (n64 C.c), .int .u64 (n64 C.d)] 31)) (B + 1) 0 (clsL C) := fun C => by
    subst hB
    exact ⟨(((Below.refl _ _).alloc (Nat.le_refl _) _).alloc (by simp) _), ((box_cls rfl x _).gr (gr_alloc _ _)), (box_cls (by simp) C _)⟩
  rw [← hB]
  have hBle : w.heap.size ≤ B := by omega
  have hBge : B ≤ w.heap.size := by omega
  clear hB
  go_loopg [4] 4 (fun g c wr => ∃ i : Nat, i + g = 4 ∧ c = .int .i64 i ∧ Below B w wr ∧ Wr wr B 0 (clsL (x.upto x.not i)) ∧ Wr wr (B + 1) 0 (clsL C4.zero))
  case atStart => exact ⟨0, by omega, rfl, hstart C4.zero⟩
  case round =>
    obtain ⟨i, hi, rfl, hb, hx, hr⟩ := hrel
    clear hstart
    by_cases h4 : i < 4
    · obtain ⟨c1, c2⟩ := cls_at hx i h4
      rw [upto_get _ _ _ h4] at c1
      have hs := cls_store hx i h4 (~~~ x.get i)
      have hf2 := hr.far (a := ⟨B, i, none⟩) (by simp) (.int .u64 (n64 (~~~ x.get i)))
      have hbs := hb.setCell (p := ⟨B, i, none⟩) (by simp) (.int .u64 (n64 (~~~ x.get i)))
      rw [← not_get, upto_set _ _ _ h4, not_get] at hs
      have HS := Lib.hid (And.intro hs (And.intro hf2 hbs))
      clear hs hf2 hbs hx hr hb
      go_wp2_with fail
      go_roundg (gk - 1)
      case measure => omega
      case rel => exact ⟨i + 1, by omega, by go_num, HS.out.2.2, HS.out.1, HS.out.2.1⟩
    · obtain rfl : i = 4 := by omega
      rw [upto_all] at hx
      obtain ⟨c0, c1, c2, c3⟩ := cls_cells hx
      obtain ⟨⟨r0, f0⟩, ⟨r1, f1⟩, ⟨r2, f2⟩, ⟨r3, f3⟩⟩ : _ ∧ _ ∧ _ ∧ _ := ⟨cls_at hr 0 (by decide), cls_at hr 1 (by decide), cls_at hr 2 (by decide), cls_at hr 3 (by decide)⟩
      go_wp2_with fail
      refine bodyPost_ret (v := .agg #[.int .u64 (n64 x.not.a), .int .u64 (n64 x.not.b), .int .u64 (n64 x.not.c), .int .u64 (n64 x.not.d)]) (by simp [results, Tryd.results51, go_sem, r0, r1, r2, r3]) rfl ⟨rfl, ?_⟩
      exact ((((hb.setCell (by simp) _).setCell (by simp) _).setCell (by simp) _).setCell (by simp) _).mono hBle
end Go.Proofs.YtkcnoompimohnaaDoor

/- ClsRg -/
namespace Go.Proofs.YtkcnoompimohnaaDoor.classSets
open Go.RowKit kit mix classL eng
theorem rangeE (lo hi : Int) (h1 : okI64 lo) (h2 : okI64 hi) (w : World) : Calls Tryd.prog 15 #[.int .i64 lo, .int .i64 hi] w (Meets (ret (clsV (rangeF lo hi))) w) := (range_calls lo hi w h1 h2).mono fun e w' ⟨he, hb⟩ => meets_ret he hb
end Go.Proofs.YtkcnoompimohnaaDoor.classSets

/- ClassSetsE -/
namespace Go.Proofs.YtkcnoompimohnaaDoor.classSets
open Go.RowKit kit mix classL eng
theorem joinE (x y : C4) (w : World) : Calls Tryd.prog 48 #[clsV x, clsV y] w (Meets (ret (clsV (x.join y))) w) := (join_calls x y w).mono fun e w' ⟨he, hb⟩ => meets_ret he hb
theorem meetE (x y : C4) (w : World) : Calls Tryd.prog 50 #[clsV x, clsV y] w (Meets (ret (clsV (x.meet y))) w) := (meet_calls x y w).mono fun e w' ⟨he, hb⟩ => meets_ret he hb
theorem notE (x : C4) (w : World) : Calls Tryd.prog 51 #[clsV x] w (Meets (ret (clsV x.not)) w) := (not_calls x w).mono fun e w' ⟨he, hb⟩ => meets_ret he hb
end Go.Proofs.YtkcnoompimohnaaDoor.classSets

/- ClassN -/
namespace Go.Proofs.YtkcnoompimohnaaDoor.eng
open Go.RowKit kit mix classL
/-- the table of the library -/
def tabC : List Value := Lib.deBruijn64tab.map fun (n : Nat) => .int .u8 (n : Int)
def TabW (w : World) : Prop := Rd w 0 0 tabC
theorem TabW.up {W w : World} {L : List Own} (h : TabW W) (hm : Mem W L w) : TabW w := fun j u hj => hm.cell (h j u hj)
theorem neg64 {x : Nat} (h0 : x ≠ 0) (hx : x < 18446744073709551616) : IntKind.u64.wrap (-(x : Int)) = ((18446744073709551616 - x : Nat) : Int) := by rw [IntKind.wrap_u64]; omega
theorem rr_neg {P : Program} {n : Nat} {W : Base} {fr : Fr} {L : List Own} {dst : Option Tmp} {t ty : TypeId} {pos : String} {after : Array Edge} {guard : Option (Nat × Bool)} {x : Operand} {k : IntKind} {m r : Int} (hx : ev fr x = some (.int k m)) (h : k.wrap (-m) = r) : RR P n W ⟨dst, .unOp .neg t x, ty, pos, after, guard⟩ fr L (.int k r) := .mk fun a w hr _ => by
  simp [execOp, hr.ev hx, Op.unary, Op.intArith, h]
theorem mulw {a b r : Nat} (h : a * b % 18446744073709551616 = r) : IntKind.u64.wrap ((a : Int) * (b : Int)) = (r : Int) := by
  rw [IntKind.wrap_u64, ← h, ← Int.natCast_mul]; omega
theorem rr_mulw {P : Program} {n : Nat} {W : Base} {fr : Fr} {L : List Own} {dst : Option Tmp} {t u ty : TypeId} {pos : String} {after : Array Edge} {guard : Option (Nat × Bool)} {x y : Operand} {k : IntKind} {m m' r : Int} (hx : ev fr x = some (.int k m)) (hy : ev fr y = some (.int k m')) (h : k.wrap (m * m') = r) : RR P n W ⟨dst, .binOp .mul t x y u, ty, pos, after, guard⟩ fr L (.int k r) := h ▸ rr_mul hx hy
theorem bytesTo_len (c : C4) : ∀ i, (bytesTo c i).length ≤ 64 * i
  | 0 => Nat.le_refl _
  | i + 1 => by
    have := bytesTo_len c i
    have h2 := ones_le 64 (c.get i).toNat
    simp only [bytesTo, List.length_append, List.length_map, bits_len]
    omega
end Go.Proofs.YtkcnoompimohnaaDoor.eng

/- LawT -/
namespace Go.Proofs.YtkcnoompimohnaaDoor.law
open Go.ChangeShapes Go.WideShapes Go.ChangeAt Go.RowKit
def tabs : List (String × DataW Unit) := [("math/bits.deBruijn64tab", Rows.laid_math_bits_deBruijn64tab)]
def zs : List Int := Lib.deBruijn64tab.map fun (n : Nat) => (n : Int)
theorem tab_of {W : World} (h : laidMetH Tryd.prog tabs W) : eng.TabW W := by
  rw [MakeChecks.laidMetH_plain _ _ _ (by kernel_rfl)] at h
  have h' : laidMet Tryd.prog (("math/bits.deBruijn64tab", Lib.tabData .u8 zs) :: []) W := h
  have hT := Lib.tabIs_of_head (g := 0) (t := 152) (e := 5) (n := 64) (by kernel_rfl) (by kernel_rfl) Tryd.underlying152 Tryd.underlying5 (by kernel_rfl) (by kernel_rfl) h'
  intro j u hj
  have hjl : j < 64 := by
    have := (List.getElem?_eq_some_iff.1 hj).1
    have e : eng.tabC.length = 64 := by unfold eng.tabC; rw [List.length_map]; decide
    omega
  have hz : zs.length = 64 := by unfold zs; rw [List.length_map]; decide
  have hc := hT.cell (g := 0) (by kernel_rfl) j (by omega)
  rw [Nat.zero_add]
  rw [hc]
  have : eng.tabC = zs.map fun z => Value.int .u8 z := by unfold eng.tabC zs; rw [List.map_map]; rfl
  rw [this, List.getElem?_map, List.getElem?_eq_getElem (by omega : j < zs.length)] at hj
  simp only [Option.map_some, Option.some.injEq] at hj
  rw [← hj, List.getD_eq_getElem?_getD, List.getElem?_eq_getElem (by omega : j < zs.length)]
  rfl
set_option maxRecDepth 100000 in
theorem saidT {os : Os} {f : FuncId} {fn : Func} {s : ChangeSpec} (started : os.Started) (noInit : Tryd.prog.inits.idxOf? f = none) (hf : Tryd.prog.funcs[f]? = some fn) (hs : SaysTrue fn s) (hread : readB fn = true) (hres : fn.resultTypes = #[4])
    {H : Type} {enc : TypeId × Value → H}
    (witness : ∃ (w : World) (tape : Tape) (i : Input), w.os = os ∧ (w.forCall tape i).Shaped Tryd.checked.prog ∧ i.vars = [] ∧ Input.okWide Tryd.checked.prog (w.forCall tape i) .any w.heap.size f i ∧
      ((s.pre enc Tryd.checked.prog fn [] false (w.forCall tape i).memory i.args ∧ laidMetH Tryd.prog tabs (w.forCall tape i).memory) ∧ sizedMet enc Tryd.checked.prog fn (OpenSpec.ofChange s) false (w.forCall tape i).memory i.args) ∧ ({} : Assume).holds Tryd.checked.prog (lone (Frame.enter Tryd.checked.prog f i.args .normal) [] (w.forCall tape i)))
    (walk : ∀ (W : World) (base : Nat) (args : Array Value) (ds : List (DataW H)) (p : List MemPlace), Given enc fn W base args ds p → eng.TabW W → Calls Tryd.prog f args W fun e W' => e = .returned (.bool true) ∧ Below W.heap.size W W') :
    ReturnsInHanded {} Tryd.checked os f .any (fun w args => (s.pre enc Tryd.prog fn [] false w args ∧ laidMetH Tryd.prog tabs w) ∧ sizedMet enc Tryd.prog fn (OpenSpec.ofChange s) false w args) (s.post enc Tryd.prog fn false true false false) := by
  refine returnsInHanded_of_change_and (C := Tryd.checked) (X := fun w _ => laidMetH Tryd.prog tabs w) (fun _ _ _ hh h => h.of_heap hh) own started noInit hf witness ?_
  intro W base args ds gs before hval hW _ hsz hL _
  have hW' := hW
  obtain ⟨p, q, hA, hV, rfl, hfz, hnd⟩ := hW
  rw [hs.1] at hV
  obtain ⟨rfl, rfl⟩ := trodVars_none hV
  have hsz' : (DataW.weightsEach Tryd.prog fn.params.toList ds).all (· ≤ reachBytes) = true := by
    have e : s.plain.varTypes Tryd.prog = [] := by simp [ChangeSpec.plain, DataSpec.varTypes, hs.1]
    have := hsz
    rw [show s.plain.varTypes Tryd.checked.prog = [] from e] at this
    rw [List.append_nil, List.append_nil] at this
    exact this
  refine (walk W base args ds p ⟨hval, hA, hsz', fun b off h => hfz b off (by simp [h])⟩ (tab_of hL)).mono fun e W' ⟨he, hb⟩ => ?_
  exact ⟨_, he, post_of hs hread hres hW' hb⟩
theorem laid_fits (os : Os) : (World.holding Tryd.prog os ⟨#[], #[], []⟩).layFits Tryd.prog tabs [] = true := by kernel_rfl
theorem laid_ifaces (os : Os) : (World.holding Tryd.prog os ⟨#[], #[], []⟩).layIfaces Tryd.prog tabs (World.laidAll Tryd.prog os tabs) = true := by kernel_rfl
theorem laid_met (os : Os) (args : Array Value) : laidMetH Tryd.prog tabs ((World.laidAll Tryd.prog os tabs).forCall (fun _ _ => 0) ⟨#[], args, []⟩).memory := by
  rw [MakeChecks.laidMetH_plain _ _ _ (by kernel_rfl)]
  exact laidMet_laidAll args (laid_fits os) (laid_ifaces os)
end Go.Proofs.YtkcnoompimohnaaDoor.law

/- RexS -/
namespace Go.Proofs.YtkcnoompimohnaaDoor.eng
open Go.RowKit kit mix classL rexL
/-- an expression that can be read, its blocks being in F -/
inductive RexIs (F : Nat → Prop) (w : World) : List Value → Rx → Prop
  | mk {k : Int} {c : C4} {kids : List Rx} {base : Option Addr} {cap : Nat} (css : List (List Value)) : kit.okI64 k → kids.length ≤ cap → cap ≤ maxLen → css.length = kids.length →
    (∀ i (h : i < kids.length) (h' : i < css.length), RexIs F w css[i] kids[i]) → (0 < kids.length → ∃ b off, base = some ⟨b, off, none⟩ ∧ F b ∧ ∀ i (_ : i < kids.length) (h' : i < css.length), Rd w b (off + i * 6) css[i]) →
    RexIs F w (.int .i64 k :: (clsL c ++ [.slice base kids.length cap])) (.mk k c kids)
theorem RexIs.len6 {F : Nat → Prop} {w : World} {cs : List Value} {t : Rx} (h : RexIs F w cs t) : cs.length = 6 := by
  cases h; rfl
theorem RexIs.stayed {F : Nat → Prop} {w w' : World} {cs : List Value} {t : Rx} (h : RexIs F w cs t) (hk : ∀ k, F k → w'.heap[k]? = w.heap[k]?) : RexIs F w' cs t := by
  induction h with
  | mk css h2 h3 h4 h5 h6 h7 ih =>
    refine .mk css h2 h3 h4 h5 ih fun hl => ?_
    obtain ⟨b, off, e, hF, hr⟩ := h7 hl
    exact ⟨b, off, e, hF, fun i hi hi' => rd_stay (hr i hi hi') (hk b hF)⟩
theorem RexIs.mono {F F' : Nat → Prop} {w : World} {cs : List Value} {t : Rx} (h : RexIs F w cs t) (hk : ∀ k, F k → F' k) : RexIs F' w cs t := by
  induction h with
  | mk css h2 h3 h4 h5 h6 h7 ih =>
    refine .mk css h2 h3 h4 h5 ih fun hl => ?_
    obtain ⟨b, off, e, hF, hr⟩ := h7 hl
    exact ⟨b, off, e, hk b hF, hr⟩
def rexS : Shp Rx := ⟨6, RexIs, fun h => h.len6, fun h hk => h.stayed hk, fun h hk => h.mono hk⟩
def rexC (k : Int) (c : C4) (v : Value) : List Value := .int .i64 k :: (clsL c ++ [v])
def rexV (k : Int) (c : C4) (v : Value) : Value := .agg (rexC k c v).toArray
theorem rex_iff {F : Nat → Prop} {w : World} {cs : List Value} {k : Int} {c : C4} {kids : List Rx} : RexIs F w cs (.mk k c kids) ↔ ∃ v, cs = rexC k c v ∧ kit.okI64 k ∧ SlF rexS F w v kids := by
  constructor
  · intro h
    cases h with
    | mk css h2 h3 h4 h5 h6 h7 =>
      refine ⟨_, rfl, h2, _, _, rfl, h3, h4, fun hl => ?_⟩
      obtain ⟨b, off, e, hF, hr⟩ := h7 hl
      exact ⟨b, off, e, hF, fun i hi => ⟨css[i]'(by omega), h6 i hi (by omega), hr i hi (by omega)⟩⟩
  · rintro ⟨v, rfl, h2, base, cap, rfl, h3, h4, h5⟩
    by_cases hl : 0 < kids.length
    · obtain ⟨b, off, e, hF, hr⟩ := h5 hl
      have hlen : (List.ofFn fun i : Fin kids.length => Classical.choose (hr i i.2)).length = kids.length := by simp
      refine .mk (List.ofFn fun i : Fin kids.length => Classical.choose (hr i i.2)) h2 h3 h4 hlen (fun i hi hi' => ?_) fun _ => ⟨b, off, e, hF, fun i hi hi' => ?_⟩
      · rw [List.getElem_ofFn]; exact (Classical.choose_spec (hr i hi)).1
      · rw [List.getElem_ofFn]; exact (Classical.choose_spec (hr i hi)).2
    · have : kids = [] := List.eq_nil_of_length_eq_zero (by omega)
      subst this
      exact .mk [] h2 h3 h4 rfl (fun i hi => absurd hi (by simp)) fun h => absurd h (by simp)
/-- an expression that is a value -/
def RexR (F : Nat → Prop) (w : World) (v : Value) (r : Rx) : Prop := ∃ vk, v = rexV r.kind r.cls vk ∧ kit.okI64 r.kind ∧ SlF rexS F w vk r.kids
theorem RexR.stay {F : Nat → Prop} {w w' : World} {v : Value} {r : Rx} (h : RexR F w v r) (hk : ∀ k, F k → w'.heap[k]? = w.heap[k]?) : RexR F w' v r :=
  let ⟨vk, h1, h2, h3⟩ := h; ⟨vk, h1, h2, h3.stay hk⟩
theorem RexR.mono {F F' : Nat → Prop} {w : World} {v : Value} {r : Rx} (h : RexR F w v r) (hk : ∀ k, F k → F' k) : RexR F' w v r :=
  let ⟨vk, h1, h2, h3⟩ := h; ⟨vk, h1, h2, h3.mono hk⟩
/-- what is there at all -/
def Low (w : World) : Nat → Prop := fun k => k < w.heap.size
theorem RexR.gr {w w' : World} {v : Value} {r : Rx} (h : RexR (Low w) w v r) (hg : Gr w w') : RexR (Low w') w' v r :=
  (h.stay fun k hk => hg.block k hk).mono fun k hk => Nat.lt_of_lt_of_le hk hg.size
theorem RexR.is {F : Nat → Prop} {w : World} {v : Value} {r : Rx} (h : RexR F w v r) : ∃ cs, v = .agg cs.toArray ∧ RexIs F w cs r := by
  obtain ⟨k, c, kids⟩ := r
  obtain ⟨vk, rfl, h1, h2⟩ := h
  exact ⟨_, rfl, rex_iff.2 ⟨vk, rfl, h1, h2⟩⟩
theorem RexIs.r {F : Nat → Prop} {w : World} {cs : List Value} {r : Rx} (h : RexIs F w cs r) : RexR F w (.agg cs.toArray) r := by
  obtain ⟨k, c, kids⟩ := r
  obtain ⟨vk, rfl, h1, h2⟩ := rex_iff.1 h
  exact ⟨vk, rfl, h1, h2⟩
/-- a kid -/
theorem rkid_at {F : Nat → Prop} {w : World} {b off : Nat} {l : List Rx} (h : ∀ i (h : i < l.length), ∃ cs, rexS.is F w cs l[i] ∧ Rd w b (off + i * rexS.c) cs) {k : Nat} (hk : k < l.length) :
    ∃ base cap, Rd w b (off + k * 6) (rexC l[k].kind l[k].cls (.slice base l[k].kids.length cap)) ∧ RexR F w (rexV l[k].kind l[k].cls (.slice base l[k].kids.length cap)) l[k] := by
  obtain ⟨cs, h1, hr⟩ := h k hk
  have h1 : RexIs F w cs l[k] := h1
  generalize l[k] = r at *
  obtain ⟨kd, c, kids⟩ := r
  obtain ⟨vk, rfl, a1, a2⟩ := rex_iff.1 h1
  have a2' := a2
  obtain ⟨base, cap, rfl, _⟩ := a2'
  exact ⟨base, cap, hr, _, rfl, a1, a2⟩
/-! ### numbered -/
/-- a node's kids and their numbers -/
def kidsK (r : Re) (k : Nat) : List (Re × Nat) := match r with
  | .cat a b => [(a, k + 1), (b, k + 1 + a.size)]
  | .alt a b => [(a, k + 1), (b, k + 1 + a.size)]
  | .star a => [(a, k + 1)]
  | _ => []
theorem kidsK_len (r : Re) (k : Nat) : (kidsK r k).length = r.kids.length := by cases r <;> rfl
/-- a numbered node that can be read, its kids' blocks being in F -/
inductive NumIs (F : Nat → Prop) (w : World) : List Value → Re × Nat → Prop
  | mk {r : Re} {k : Nat} {vk : Value} {base : Option Addr} {cap : Nat} (css : List (List Value)) : vk.oneCell' = true → (kidsK r k).length ≤ cap → cap ≤ maxLen → css.length = (kidsK r k).length →
    (∀ i (h : i < (kidsK r k).length) (h' : i < css.length), NumIs F w css[i] (kidsK r k)[i]) → (0 < (kidsK r k).length → ∃ b off, base = some ⟨b, off, none⟩ ∧ F b ∧ ∀ i (_ : i < (kidsK r k).length) (h' : i < css.length), Rd w b (off + i * 8) css[i]) →
    NumIs F w (.int .i64 r.kind :: (clsL r.cls ++ [vk, .int .i64 (k : Int), .slice base (kidsK r k).length cap])) (r, k)
theorem NumIs.len8 {F : Nat → Prop} {w : World} {cs : List Value} {t : Re × Nat} (h : NumIs F w cs t) : cs.length = 8 := by
  cases h; rfl
theorem NumIs.stayed {F : Nat → Prop} {w w' : World} {cs : List Value} {t : Re × Nat} (h : NumIs F w cs t) (hk : ∀ k, F k → w'.heap[k]? = w.heap[k]?) : NumIs F w' cs t := by
  induction h with
  | mk css h2 h3 h4 h5 h6 h7 ih =>
    refine .mk css h2 h3 h4 h5 ih fun hl => ?_
    obtain ⟨b, off, e, hF, hr⟩ := h7 hl
    exact ⟨b, off, e, hF, fun i hi hi' => rd_stay (hr i hi hi') (hk b hF)⟩
theorem NumIs.mono {F F' : Nat → Prop} {w : World} {cs : List Value} {t : Re × Nat} (h : NumIs F w cs t) (hk : ∀ k, F k → F' k) : NumIs F' w cs t := by
  induction h with
  | mk css h2 h3 h4 h5 h6 h7 ih =>
    refine .mk css h2 h3 h4 h5 ih fun hl => ?_
    obtain ⟨b, off, e, hF, hr⟩ := h7 hl
    exact ⟨b, off, e, hk b hF, hr⟩
def numS : Shp (Re × Nat) := ⟨8, NumIs, fun h => h.len8, fun h hk => h.stayed hk, fun h hk => h.mono hk⟩
def numC (r : Re) (k : Nat) (vk v : Value) : List Value := .int .i64 r.kind :: (clsL r.cls ++ [vk, .int .i64 (k : Int), v])
theorem num_iff {F : Nat → Prop} {w : World} {cs : List Value} {r : Re} {k : Nat} : NumIs F w cs (r, k) ↔ ∃ vk v, cs = numC r k vk v ∧ vk.oneCell' = true ∧ SlF numS F w v (kidsK r k) := by
  constructor
  · intro h
    cases h with
    | mk css h2 h3 h4 h5 h6 h7 =>
      refine ⟨_, _, rfl, h2, _, _, rfl, h3, h4, fun hl => ?_⟩
      obtain ⟨b, off, e, hF, hr⟩ := h7 hl
      exact ⟨b, off, e, hF, fun i hi => ⟨css[i]'(by omega), h6 i hi (by omega), hr i hi (by omega)⟩⟩
  · rintro ⟨vk, v, rfl, h2, base, cap, rfl, h3, h4, h5⟩
    by_cases hl : 0 < (kidsK r k).length
    · obtain ⟨b, off, e, hF, hr⟩ := h5 hl
      have hlen : (List.ofFn fun i : Fin (kidsK r k).length => Classical.choose (hr i i.2)).length = (kidsK r k).length := by simp
      refine .mk (List.ofFn fun i : Fin (kidsK r k).length => Classical.choose (hr i i.2)) h2 h3 h4 hlen (fun i hi hi' => ?_) fun _ => ⟨b, off, e, hF, fun i hi hi' => ?_⟩
      · rw [List.getElem_ofFn]; exact (Classical.choose_spec (hr i hi)).1
      · rw [List.getElem_ofFn]; exact (Classical.choose_spec (hr i hi)).2
    · exact .mk [] h2 h3 h4 (by simp; omega) (fun i hi => absurd hi (by omega)) fun h => absurd h hl
/-! ### memory that stays as it is -/
def frozO (F : Nat → Prop) (w1 : World) : Own :=
  ⟨none, F, fun w => (∀ k, F k → w.heap[k]? = w1.heap[k]?) ∧ ∀ k, F k → k < w.heap.size, fun w h k hk => h.2 k (hk.elim (fun h => by cases h) id),
    fun w w' h hs hb => ⟨fun k hk => (hb k (.inr hk)).trans (h.1 k hk), fun k hk => Nat.lt_of_lt_of_le (h.2 k hk) hs⟩⟩
section
variable {P : Program} {n : Nat} {W : Base} {fr : Fr} {L : List Own} {Q : Exit → Act → World → Prop} {ops : Array Oper} {rest : List Oper}
theorem Mem.reownAt {w : World} {i : Nat} {o : Own} (o' : Own) (h : Mem W L w) (hi : L[i]? = some o) (hh : o'.holds w) (hf : ∀ k, o'.foot k → o.foot k) : Mem W (L.set i o') w := by
  have hlen : i < L.length := (List.getElem?_eq_some_iff.1 hi).1
  have hoi := h.owns.all i o hi
  refine ⟨h.low, fun j q hj => ?_, fun j j' q q' hij hj hj' k hk hk' => ?_⟩
  · by_cases e : i = j
    · subst e
      rw [List.getElem?_set_self hlen] at hj
      simp only [Option.some.injEq] at hj; subst hj
      exact ⟨hh, fun k hk => hoi.2 k (hf k hk)⟩
    · rw [List.getElem?_set_ne e] at hj
      exact h.owns.all j q hj
  · by_cases e : i = j
    · subst e
      rw [List.getElem?_set_self hlen] at hj
      rw [List.getElem?_set_ne hij] at hj'
      simp only [Option.some.injEq] at hj; subst hj
      exact h.owns.apart i j' o q' hij hi hj' k (hf k hk) hk'
    · rw [List.getElem?_set_ne e] at hj
      by_cases e' : i = j'
      · subst e'
        rw [List.getElem?_set_self hlen] at hj'
        simp only [Option.some.injEq] at hj'; subst hj'
        exact h.owns.apart j i q o hij hj hi k hk (hf k hk')
      · rw [List.getElem?_set_ne e'] at hj'
        exact h.owns.apart j j' q q' hij hj hj' k hk hk'
theorem Mem.freeze {w : World} {i : Nat} {o : Own} (F : Nat → Prop) (h : Mem W L w) (hi : L[i]? = some o) (hF : ∀ k, F k → o.foot k) : Mem W (L.set i (frozO F w)) w :=
  h.reownAt (frozO F w) hi ⟨fun _ _ => rfl, fun k hk => o.lt w (h.get hi) k (hF k hk)⟩ fun k hk => hk.elim (fun e => by cases e) (hF k)
theorem TL_freeze {i : Nat} {o : Own} (F : Nat → Prop) (hi : L[i]? = some o) (hF : ∀ k, F k → o.foot k) (h : ∀ w1, o.holds w1 → TL P n W ops Q rest fr (L.set i (frozO F w1))) : TL P n W ops Q rest fr L :=
  .mk fun a w hr hm => (h w (hm.get hi)).go a w hr (hm.freeze F hi hF)
theorem at_froz {i b off : Nat} {F : Nat → Prop} {w1 : World} {cs : List Value} (hi : L[i]? = some (frozO F w1)) (hF : F b) (h : Rd w1 b off cs) (j : Nat) (v : Value) (hj : cs[j]? = some v) : At W L ⟨b, off + j, none⟩ v := fun w hm =>
  rd_stay h ((hm.get hi : (frozO F w1).holds w).1 b hF) j v hj
end
end Go.Proofs.YtkcnoompimohnaaDoor.eng

/- ClassO1 -/
namespace Go.Proofs.YtkcnoompimohnaaDoor.eng
open Go.RowKit kit mix classL
theorem v64_ofN {n : Int} (h0 : 0 ≤ n) (h1 : n ≤ 18446744073709551615) : v64 (BitVec.ofNat 64 n.toNat) = .int .u64 n := by
  simp only [v64, n64, BitVec.toNat_ofNat]
  congr 1
  omega
set_option maxRecDepth 100000 in
theorem opens_cls {H : Type} {enc0 : TypeId × Value → H} {W : World} : Opens enc0 Tryd.prog W 31 (fun cs x => cs = clsL x ∧ True) := fun fuel cs x hf => by
  have ho : Opens enc0 Tryd.prog W 31 (isInts .u64 0 18446744073709551615 4) := (opens_array (is := isInt .u64 0 18446744073709551615) (c := 1) Tryd.underlying31 (by kernel_rfl) (opens_u64 Tryd.underlying29)).mono fun cs l h => by
    have e : Tryd.prog.cellsOf 31 = 4 := by kernel_rfl
    exact ints_of_arr (by rw [h.1, e]) h.2
  obtain ⟨l, h1, h2, h3⟩ := ho fuel cs _ hf
  match l, h1 with
  | [p, q, r, s], _ =>
    have b0 := h3 p (by simp)
    have b1 := h3 q (by simp)
    have b2 := h3 r (by simp)
    have b3 := h3 s (by simp)
    refine ⟨⟨BitVec.ofNat 64 p.toNat, BitVec.ofNat 64 q.toNat, BitVec.ofNat 64 r.toNat, BitVec.ofNat 64 s.toNat⟩, ?_, trivial⟩
    show cs = [v64 (BitVec.ofNat 64 p.toNat), v64 (BitVec.ofNat 64 q.toNat), v64 (BitVec.ofNat 64 r.toNat), v64 (BitVec.ofNat 64 s.toNat)]
    rw [v64_ofN b0.1 b0.2, v64_ofN b1.1 b1.2, v64_ofN b2.1 b2.2, v64_ofN b3.1 b3.2, h2]
    rfl
end Go.Proofs.YtkcnoompimohnaaDoor.eng

/- RexI -/
namespace Go.Proofs.YtkcnoompimohnaaDoor.eng
open Go.RowKit kit mix classL rexL Go.ChangeShapes Go.WideShapes Go.ChangeAt
set_option maxRecDepth 100000
section
variable {H : Type} {enc0 : TypeId × Value → H} {P : Program} {W : World} {M : Msr P H}
/-- what a datum of so much depth reads as -/
def OpensF (M : Msr P H) (enc0 : TypeId × Value → H) (W : World) (fuel : Nat) (t : TypeId) {α : Type} (is : List Value → α → Prop) : Prop :=
  ∀ cs x, DataW.trod enc0 P W 0 (fun _ => true) true fuel t cs = some x → M.ok t x.1 → ∃ a, is cs a
theorem OpensM.at {fuel : Nat} {t : TypeId} {α : Type} {is : List Value → α → Prop} (h : OpensM M enc0 W t is) : OpensF M enc0 W fuel t is := fun cs x => h fuel cs x
theorem opensF_slice {fuel : Nat} {t e : TypeId} {c : Nat} (ht : P.underlying t = some (.slice e)) (hc : P.cellsOf e = c) (hc0 : 0 < c) {α : Type} {is : List Value → α → Prop} (hd : ∀ n, fuel = n + 1 → OpensF M enc0 W n e is) (hl : ∀ cs a, is cs a → cs.length = c) : OpensF M enc0 W fuel t (fun cs l => isSl W is c cs l ∧ M.lim e l.length) := fun cs x h hm => by
  rcases DataW.trod_slice ht h with ⟨rfl, _⟩ | ⟨a, len, cap, elems, rest, n, hf, rfl, hx, _, hlc, hmx, hel, hread, _⟩
  · exact ⟨[], ⟨_, rfl, none, 0, rfl, Nat.le_refl _, by decide, fun h => by simp at h⟩, M.zero e⟩
  · rw [hx] at hm
    obtain ⟨hlim, hall⟩ := M.slice ht hm
    have each : ∀ i, i < len → ∃ y : α, ∃ cs, W.cells? 0 (a.add (i * c)) c = some cs ∧ is cs y := fun i hi => by
      have h1 := hread i hi
      rw [hc, List.getElem?_eq_getElem (by omega)] at h1
      cases hcell : W.cells? 0 (a.add (i * c)) c with
      | none => rw [hcell] at h1; simp at h1
      | some cs =>
        rw [hcell] at h1
        obtain ⟨y, hy⟩ := hd n hf cs _ h1 (hall _ (List.mem_map.2 ⟨_, List.getElem_mem (by omega), rfl⟩))
        exact ⟨y, cs, rfl, hy⟩
    obtain ⟨l, hll, hp⟩ := list_of len each
    subst hll
    refine ⟨l, ⟨_, rfl, some a, cap, rfl, hlc, hmx, fun h0 => ?_⟩, by rw [List.length_map, hel] at hlim; exact hlim⟩
    obtain ⟨cs0, h1, h2⟩ := hp 0 l[0] (List.getElem?_eq_getElem h0)
    have h3 := (cells_some h1).2 0 hc0
    have hlen := (cells_some h1).1
    rw [List.getElem?_eq_getElem (by omega)] at h3
    have hsp := spot_none h3
    have e0 : a.spot = none := by
      rw [Nat.zero_mul] at hsp
      unfold Addr.add at hsp
      simpa using hsp
    obtain ⟨b, off, spot⟩ := a
    obtain rfl : spot = none := e0
    refine ⟨b, off, rfl, fun i hi => ?_⟩
    obtain ⟨cs, h4, h5⟩ := hp i l[i] (List.getElem?_eq_getElem hi)
    refine ⟨cs, h5, fun j u hj => ?_⟩
    have hj2 : j < c := by
      have := (List.getElem?_eq_some_iff.1 hj).1
      rw [(cells_some h4).1] at this; exact this
    have h6 := (cells_some h4).2 j hj2
    rw [hj] at h6
    have e1 : ∀ (o k : Nat), (⟨b, o, none⟩ : Addr).add k = ⟨b, o + k, none⟩ := fun o k => by unfold Addr.add; simp
    rw [e1, e1] at h6
    rw [← h6]
theorem fieldF_of {t : TypeId} {fs : Array Field} (ht : P.underlying t = some (.struct fs)) {fuel : Nat} {cs : List Value} {x : DataW H × List MemPlace} (h : DataW.trod enc0 P W 0 (fun _ => true) true fuel t cs = some x) (hm : M.ok t x.1) :
    cs.length = P.cellsOf t ∧ ∃ n, fuel = n + 1 ∧ ∀ (i : Nat) (f : Field), fs[i]? = some f → ∀ {α : Type} {is : List Value → α → Prop}, OpensF M enc0 W n f.type is → ∃ a, is ((cs.drop f.offset).take (P.cellsOf f.type)) a := by
  obtain ⟨xs, n, hn, hx, hl, hlen, hf⟩ := DataW.trod_struct ht h
  refine ⟨hl, n, hn, fun i f hi α is ho => ?_⟩
  have h1 := hf i f hi
  have hlt : i < xs.length := by rw [hlen]; exact (Array.getElem?_eq_some_iff.1 hi).1
  rw [List.getElem?_eq_getElem hlt] at h1
  rw [hx] at hm
  exact ho _ _ h1 (M.strct ht hm i f _ hi (by rw [List.getElem?_map, List.getElem?_eq_getElem hlt]; rfl))
end

theorem slf_anyR {W : World} {v : Value} {l : List Rx} (h : SlX W (fun cs t => RexIs (Low W) W cs t) 6 v l) : SlF rexS (Low W) W v l := by
  obtain ⟨base, cap, h1, h2, h3, h4⟩ := h
  refine ⟨base, cap, h1, h2, h3, fun h0 => ?_⟩
  obtain ⟨b, off, h5, h6⟩ := h4 h0
  refine ⟨b, off, h5, ?_, fun i hi => ?_⟩
  · obtain ⟨cs, h7, h8⟩ := h6 0 h0
    have h7' : cs.length = 6 := RexIs.len6 h7
    have := h8 0 _ (List.getElem?_eq_getElem (by omega))
    exact World.block_lt_of_cell? W _ this
  · obtain ⟨cs, h7, h8⟩ := h6 i hi
    exact ⟨cs, h7, h8⟩
theorem opensF_rex {H : Type} {M : Msr Tryd.prog H} {enc0 : TypeId × Value → H} {W : World} : ∀ (F fuel : Nat), fuel ≤ F → OpensF M enc0 W fuel 33 (fun cs t => RexIs (Low W) W cs t)
  | 0, fuel, hF, cs, x, h, hm => by
    obtain ⟨_, n, hn, _⟩ := fieldF_of Tryd.underlying33 h hm
    omega
  | F + 1, fuel, hF, cs, x, h, hm => by
    obtain ⟨hl, n, hn, hfs⟩ := fieldF_of Tryd.underlying33 h hm
    have hl6 : cs.length = 6 := hl
    obtain ⟨p, e0, k1⟩ := hfs 0 _ rfl (OpensM.at (opensM_i64 Tryd.underlying3))
    obtain ⟨c, e1⟩ := hfs 1 _ rfl (OpensM.at (opensM_of opens_cls))
    obtain ⟨l, ⟨v, e2, hs⟩, _⟩ := hfs 2 _ rfl (opensF_slice (c := 6) Tryd.underlying22 (by kernel_rfl) (by decide) (fun m hm => opensF_rex F m (by omega)) fun cs a h => h.len6)
    replace e0 : (cs.drop 0).take 1 = [.int .i64 p] := e0
    replace e1 : (cs.drop 1).take 4 = clsL c := e1.1
    replace e2 : (cs.drop 5).take 1 = [v] := e2
    refine ⟨.mk p c l, rex_iff.2 ⟨v, ?_, k1, slf_anyR hs⟩⟩
    unfold rexC
    rw [← e1]
    match cs, hl6 with
    | [x0, x1, x2, x3, x4, x5], _ =>
      simp only [List.drop_succ_cons, List.drop_zero, List.take_succ_cons, List.take_zero, List.cons.injEq, and_true] at e0 e2
      subst e0 e2
      rfl
theorem open_rexs {H : Type} {enc0 : TypeId × Value → H} {W : World} {base : Nat} {v : Value} {d : DataW H} {ps : List MemPlace} (hv : Value.okWide Tryd.prog W .any base 22 v) (h : DataW.Trod enc0 Tryd.prog W 0 (fun _ => true) true 22 v d ps) {ts : List TypeId} {ds : List (DataW H)} (hsz : (DataW.weightsEach Tryd.prog ts ds).all (· ≤ reachBytes) = true) (j : Nat) (hj : ts[j]? = some 22) (hd : ds[j]? = some d) :
    ∃ l : List Rx, SlF rexS (Low W) W v l := by
  obtain ⟨l, h1, h2⟩ := topM_slice (M := weightM Tryd.prog H) (c := 6) (is := fun cs t => RexIs (Low W) W cs t) Tryd.underlying22 (by kernel_rfl) (by decide) (fun fuel => opensF_rex fuel fuel (Nat.le_refl _)) (fun cs a h => h.len6) hv h (weightM_top hsz j hj hd)
  exact ⟨l, slf_anyR h1⟩
end Go.Proofs.YtkcnoompimohnaaDoor.eng

/- DfS -/
namespace Go.Proofs.YtkcnoompimohnaaDoor.eng
open Go.RowKit kit mix classL
theorem pow_64 {j : Nat} (hj : j < 64) : 2 ^ j < 18446744073709551616 := by
  have := Nat.pow_lt_pow_right (a := 2) (by decide) hj
  rwa [show (2 : Nat) ^ 64 = 18446744073709551616 from rfl] at this
theorem shl1 {P : Program} (j : Nat) (hj : j < 64) (w : World) : (Op.shift .shl .u64 1 .i64 (j : Int)).run P w = .ok (.int .u64 ((2 ^ j : Nat) : Int)) w := by
  have e : min j 64 = j := by omega
  have e2 : (2 : Int) ^ j = ((2 ^ j : Nat) : Int) := by rw [Int.natCast_pow]; rfl
  have e3 : IntKind.u64.wrap ((1 : Int) * 2 ^ j) = ((2 ^ j : Nat) : Int) := by
    have := pow_64 hj
    rw [e2, IntKind.wrap_u64, Int.one_mul]
    generalize 2 ^ j = y at *
    omega
  have h0 : ¬ ((j : Int) < 0) := by omega
  simp only [Op.shift, if_neg h0, IntKind.bits, Int.toNat_natCast, e, e3, Sem.run_pure]
theorem i64and63 : ∀ b : Nat, b < 256 → bits .and .i64 (b : Int) 63 = ((b % 64 : Nat) : Int) := by decide +kernel
theorem clsA_get (c : C4) (i : Nat) (h : i < 4) : (clsL c).toArray[i]? = some (.int .u64 ((c.get i).toNat : Int)) := cls_cell c i h
theorem clsA_set (c : C4) (i : Nat) (h : i < 4) (v : BitVec 64) : (clsL c).toArray.setIfInBounds i (.int .u64 (v.toNat : Int)) = (clsL (c.set i v)).toArray := by
  match i, h with
  | 0, _ => rfl
  | 1, _ => rfl
  | 2, _ => rfl
  | 3, _ => rfl
attribute [local irreducible] Op.shift Go.bits in
theorem setHas_calls (c : C4) (b : Nat) (hb : b < 256) (w : World) : Calls Tryd.prog 39 #[clsV c, .int .i64 (b : Int)] w (Meets (ret (.bool (c.mem b))) w) := by
  refine enter (args := [.agg #[v64 c.a, v64 c.b, v64 c.c, v64 c.d], .int .i64 (b : Int)]) (n := 14) Tryd.func39 rfl rfl rfl ?_
  refine T_seq (T_region (TL_box rfl rfl rfl fun g => ?_))
  have h1 : b / 64 < 4 := by omega
  have hc : (#[v64 c.a, v64 c.b, v64 c.c, v64 c.d] : Array Value)[0 + b / 64]? = some (.int .u64 ((c.get (b / 64)).toNat : Int)) := by rw [Nat.zero_add]; exact cls_cell c _ h1
  have hx := (c.get (b / 64)).isLt
  have hs1 : ∀ w, (Op.shift .shr .i64 (b : Int) .u64 6).run Tryd.prog w = .ok (.int .i64 ((b / 64 : Nat) : Int)) w := fun w => shrU b 6 64 .i64 .u64 rfl (by decide) w
  have hs2 : ∀ w, (Op.shift .shr .u64 ((c.get (b / 64)).toNat : Int) .i64 ((b % 64 : Nat) : Int)).run Tryd.prog w = .ok (.int .u64 (((c.get (b / 64)).toNat / 2 ^ (b % 64) : Nat) : Int)) w := fun w => shrU _ (b % 64) 64 .u64 .i64 rfl (by omega) w
  have hm : c.mem b = decide ((c.get (b / 64)).toNat / 2 ^ (b % 64) % 2 = 1) := by unfold C4.mem; rw [Nat.testBit_eq_decide_div_mod_eq]
  rw [hm]
  have hd : (c.get (b / 64)).toNat / 2 ^ (b % 64) ≤ (c.get (b / 64)).toNat := Nat.div_le_self _ _
  have h63 := i64and63 b hb
  generalize (c.get (b / 64)).toNat = x at *
  generalize b % 64 = k at *
  generalize b / 64 = i at *
  generalize x / 2 ^ k = y at *
  have ha : bits .and .u64 (y : Int) 1 = ((y % 2 : Nat) : Int) := by
    have := bits_and_u64_nat y 1 (by omega) (by decide)
    rw [Nat.and_one_is_mod] at this
    exact this
  repeat (first
    | refine QV QP ?_ | refine QZ ?_ | refine QV (rr_shr rfl rfl hs1) ?_ | refine QV (rr_aidx1 Und.eq TyC.ty rfl rfl h1) ?_
    | refine QV (rr_load1 TyC.ty rfl (at_blk (i := 0) rfl hc)) ?_ | refine QV (rr_and rfl rfl h63) ?_ | refine QV (rr_shr rfl rfl hs2) ?_
    | refine QV (rr_and rfl rfl ha) ?_ | refine QV (rr_eql rfl rfl rfl) ?_ | refine QV QeT ?_ | refine QV QeF ?_)
  exact E_ret1e rfl rfl (by congr 1; rw [decide_eq_decide]; omega)
attribute [local irreducible] Op.shift Go.bits in
theorem setPut_calls (c : C4) (b : Nat) (hb : b < 256) (g : Nat) (w : World) (B : Base) (hm : Mem B [blkO g (clsL c).toArray 106] w) :
    Calls Tryd.prog 41 #[.pointer (some ⟨g, 0, none⟩), .int .i64 (b : Int)] w (MeetsB ⟨fun (_ : Unit) => True, fun _ => .tuple #[], fun _ => [blkO g (clsL (c.bit b)).toArray 106]⟩ B) := by
  refine enterB hm (args := [.pointer (some ⟨g, 0, none⟩), .int .i64 (b : Int)]) (n := 16) Tryd.func41 rfl rfl rfl ?_
  clear hm
  have h1 : b / 64 < 4 := by omega
  have hc : (clsL c).toArray[0 + b / 64]? = some (.int .u64 ((c.get (b / 64)).toNat : Int)) := by rw [Nat.zero_add]; exact clsA_get c _ h1
  have hs1 : ∀ w, (Op.shift .shr .i64 (b : Int) .u64 6).run Tryd.prog w = .ok (.int .i64 ((b / 64 : Nat) : Int)) w := fun w => shrU b 6 64 .i64 .u64 rfl (by decide) w
  have h63 := i64and63 b hb
  have hsh := shl1 (P := Tryd.prog) (b % 64) (by omega)
  have hset := clsA_set c (b / 64) h1 (c.get (b / 64) ||| BitVec.ofNat 64 (2 ^ (b % 64)))
  have hbit : c.bit b = c.set (b / 64) (c.get (b / 64) ||| BitVec.ofNat 64 (2 ^ (b % 64))) := rfl
  rw [← hbit] at hset
  have hor : bits .or .u64 ((c.get (b / 64)).toNat : Int) ((2 ^ (b % 64) : Nat) : Int) = (((c.get (b / 64)) ||| BitVec.ofNat 64 (2 ^ (b % 64))).toNat : Int) := by
    have hp := pow_64 (j := b % 64) (by omega)
    rw [bits_or_u64_nat _ _ (c.get (b / 64)).isLt hp, BitVec.toNat_or, BitVec.toNat_ofNat, Nat.mod_eq_of_lt hp]
  have hm0 : b % 64 < 64 := by omega
  generalize c.get (b / 64) ||| BitVec.ofNat 64 (2 ^ (b % 64)) = z at *
  generalize (c.get (b / 64)).toNat = x at *
  generalize 2 ^ (b % 64) = y at *
  generalize b % 64 = k at *
  generalize b / 64 = i at *
  generalize c.bit b = c' at *
  have hsz : Nat.blt (0 + i) (clsL c).toArray.size = true := by rw [Nat.blt_eq]; show 0 + i < 4; omega
  rw [← Nat.zero_add i] at hset
  refine T_ord ([]) (.calm 0 (.calm 1 (.calm 2 (.calm 3 (.calm 4 (.calm 6 (.calm 7 (.calm 8 (.calm 10 (.one 5 (.calm 9 (.calm 11 (.one 12 (.done)))))))))))))) (sub_pick [] (by decide) rfl) (by kernel_rfl) (by kernel_rfl) (by intro c a d v w h; cases d <;> exact h) ?_
  repeat (first
    | ((first | refine TW_plain rfl rfl ?_ | refine TW_gmet rfl rfl rfl rfl ?_); first | refine QW QP ?_ | refine QW (rr_shr rfl rfl hs1) ?_ | refine QW (rr_nilc rfl) ?_ | refine QW (rr_aidx1 Und.eq TyC.ty rfl rfl h1) ?_ | refine QW (rr_and rfl rfl h63) ?_ | refine QW (rr_shl rfl rfl hsh) ?_ | refine QW (rr_nilc rfl) ?_)
    | refine TW_done ?_)
  refine TW_one rfl (TL_val (rr_load1 TyC.ty rfl (at_blk (i := 0) rfl hc)) rfl rfl rfl (TW_on (sub_pick [] (by decide) rfl) ?_))
  repeat (first
    | ((first | refine TW_plain rfl rfl ?_ | refine TW_gmet rfl rfl rfl rfl ?_); first | refine QW QP ?_ | refine QW (rr_or rfl rfl hor) ?_ | refine QW (rr_nilc rfl) ?_ | refine QW (rr_aidx1 Und.eq TyC.ty rfl rfl h1) ?_ | refine QW (rr_nilc rfl) ?_)
    | refine TW_done ?_)
  refine TW_one rfl (TL_store1 (i := 0) rfl rfl rfl rfl rfl hsz (TW_on (sub_pick [] (by decide) rfl) ?_))
  repeat (first
    | ((first | refine TW_plain rfl rfl ?_ | refine TW_gmet rfl rfl rfl rfl ?_); first | refine QW QP ?_ | refine QW (rr_nilc rfl) ?_) | refine TW_done ?_)
  repeat (first
    | refine QV QP ?_ | refine QZ ?_ | refine QV (rr_nilc rfl) ?_)
  exact E_end0 rfl fun w hm => hm.meetsB (S := ⟨fun (_ : Unit) => True, fun _ => .tuple #[], fun _ => [blkO g (clsL c').toArray 106]⟩) () trivial [0] (by decide) (by rw [← hset]; rfl)
end Go.Proofs.YtkcnoompimohnaaDoor.eng

/- PlacesL -/
namespace Go.Proofs.YtkcnoompimohnaaDoor.placesL
open classL rexL Go.Lib
def sortL (l : List Int) : List Int := l.mergeSort fun x y => decide (x ≤ y)
/-- the union of two rising lists -/
def uni (a b : List Int) : List Int := compact (sortL (a ++ b))
theorem sortL_sorted (l : List Int) : (sortL l).Pairwise (· ≤ ·) := by
  have := List.pairwise_mergeSort (le := fun x y : Int => decide (x ≤ y)) (fun a b c => by simp; omega) (fun a b => by simp; omega) l
  exact this.imp (by simp)
theorem compactUpTo_law {d : Array Int} (hs : ∀ i j, i ≤ j → j < d.size → d[i]! ≤ d[j]!) : ∀ m, m ≤ d.size → (compactUpTo d m).Pairwise (· < ·) ∧ (∀ x, x ∈ compactUpTo d m ↔ ∃ j, j < m ∧ d[j]! = x)
  | 0, _ => ⟨by unfold compactUpTo; simp, fun x => by unfold compactUpTo; simp⟩
  | m + 1, hm => by
    obtain ⟨h1, h2⟩ := compactUpTo_law hs m (by omega)
    rw [compactUpTo_succ]
    by_cases hk : keeps d m = true
    · rw [if_pos hk]
      have hk' : m = 0 ∨ d[m]! ≠ d[m - 1]! := by unfold keeps at hk; simpa using hk
      refine ⟨List.pairwise_append.2 ⟨h1, List.pairwise_singleton _ _, fun x hx y hy => ?_⟩, fun x => ?_⟩
      · rw [List.mem_singleton.1 hy]
        obtain ⟨j, hj, rfl⟩ := (h2 x).1 hx
        have a1 := hs j (m - 1) (by omega) (by omega)
        have a2 := hs (m - 1) m (by omega) (by omega)
        rcases hk' with h0 | h0
        · omega
        · omega
      · rw [List.mem_append, List.mem_singleton, h2]
        constructor
        · rintro (⟨j, hj, rfl⟩ | rfl)
          · exact ⟨j, by omega, rfl⟩
          · exact ⟨m, by omega, rfl⟩
        · rintro ⟨j, hj, rfl⟩
          by_cases c : j = m
          · subst c; exact .inr rfl
          · exact .inl ⟨j, by omega, rfl⟩
    · rw [if_neg hk, List.append_nil]
      refine ⟨h1, fun x => ?_⟩
      rw [h2]
      constructor
      · rintro ⟨j, hj, rfl⟩; exact ⟨j, by omega, rfl⟩
      · rintro ⟨j, hj, rfl⟩
        by_cases c : j = m
        · subst c
          have hk' : ¬ (j = 0 ∨ d[j]! ≠ d[j - 1]!) := by unfold keeps at hk; simpa using hk
          have e : d[j]! = d[j - 1]! := by
            rcases Classical.em (d[j]! = d[j - 1]!) with h | h
            · exact h
            · exact absurd (.inr h) hk'
          have : j ≠ 0 := fun h => hk' (.inl h)
          exact ⟨j - 1, by omega, e.symm⟩
        · exact ⟨j, by omega, rfl⟩
theorem sorted_get {l : List Int} (h : l.Pairwise (· ≤ ·)) : ∀ i j, i ≤ j → j < l.toArray.size → l.toArray[i]! ≤ l.toArray[j]! := by
  intro i j hij hj
  have hj' : j < l.length := by simpa using hj
  rw [getElem!_pos l.toArray i (by simp; omega), getElem!_pos l.toArray j hj]
  by_cases c : i = j
  · subst c; exact Int.le_refl _
  · exact List.pairwise_iff_getElem.1 h i j (by omega) hj' (by omega)
theorem uni_law (a b : List Int) : (uni a b).Pairwise (· < ·) ∧ ∀ x, x ∈ uni a b ↔ x ∈ a ∨ x ∈ b := by
  have hs := sorted_get (sortL_sorted (a ++ b))
  obtain ⟨h1, h2⟩ := compactUpTo_law hs (sortL (a ++ b)).length (by simp)
  refine ⟨h1, fun x => ?_⟩
  unfold uni compact
  rw [h2, ← List.mem_append, ← List.mem_mergeSort (l := a ++ b) (le := fun x y : Int => decide (x ≤ y))]
  show _ ↔ x ∈ sortL (a ++ b)
  rw [List.mem_iff_getElem]
  constructor
  · rintro ⟨j, hj, rfl⟩; exact ⟨j, hj, by rw [getElem!_pos _ j (by simpa using hj)]; rfl⟩
  · rintro ⟨j, hj, rfl⟩; exact ⟨j, hj, by rw [getElem!_pos _ j (by simpa using hj)]; rfl⟩
/-- places of n, rising -/
def Ris (n : Nat) (l : List Int) : Prop := l.Pairwise (· < ·) ∧ ∀ x ∈ l, 0 ≤ x ∧ x < n
theorem ris_len {n : Nat} {l : List Int} (h : Ris n l) : l.length ≤ n := by
  have key : ∀ (l : List Int) (lo : Int), l.Pairwise (· < ·) → (∀ x ∈ l, lo ≤ x ∧ x < n) → lo ≤ n → (l.length : Int) ≤ n - lo := by
    intro l
    induction l with
    | nil => intro lo _ _ h; show (0 : Int) ≤ _; omega
    | cons x r ih =>
      intro lo hp hx _
      rw [List.pairwise_cons] at hp
      have h1 := hx x (List.mem_cons_self ..)
      have := ih (x + 1) hp.2 (fun y hy => ⟨by have := hp.1 y hy; omega, (hx y (List.mem_cons_of_mem _ hy)).2⟩) (by omega)
      rw [List.length_cons]; omega
  have := key l 0 h.1 h.2 (by omega)
  omega
theorem ris_nil (n : Nat) : Ris n [] := ⟨List.Pairwise.nil, fun x h => by cases h⟩
theorem ris_mono {n m : Nat} {l : List Int} (h : Ris n l) (hm : n ≤ m) : Ris m l := ⟨h.1, fun x hx => by have := h.2 x hx; omega⟩
theorem ris_uni {n : Nat} {a b : List Int} (ha : ∀ x ∈ a, 0 ≤ x ∧ x < n) (hb : ∀ x ∈ b, 0 ≤ x ∧ x < n) : Ris n (uni a b) :=
  ⟨(uni_law a b).1, fun x hx => ((uni_law a b).2 x |>.1 hx).elim (ha x) (hb x)⟩
/-- rising lists of the same members are one list -/
theorem rising_ext : ∀ {a b : List Int}, a.Pairwise (· < ·) → b.Pairwise (· < ·) → (∀ x, x ∈ a ↔ x ∈ b) → a = b
  | [], [], _, _, _ => rfl
  | [], y :: b, _, _, h => by have := (h y).2 (List.mem_cons_self ..); cases this
  | x :: a, [], _, _, h => by have := (h x).1 (List.mem_cons_self ..); cases this
  | x :: a, y :: b, ha, hb, h => by
    rw [List.pairwise_cons] at ha hb
    have hxy : x = y := by
      rcases List.mem_cons.1 ((h x).1 (List.mem_cons_self ..)) with e | e
      · exact e
      · rcases List.mem_cons.1 ((h y).2 (List.mem_cons_self ..)) with e' | e'
        · exact e'.symm
        · have h1 := hb.1 x e
          have h2 := ha.1 y e'
          omega
    subst hxy
    rw [rising_ext ha.2 hb.2 fun z => ?_]
    constructor
    · intro hz
      rcases List.mem_cons.1 ((h z).1 (List.mem_cons_of_mem _ hz)) with e | e
      · subst e; exact absurd (ha.1 z hz) (by omega)
      · exact e
    · intro hz
      rcases List.mem_cons.1 ((h z).2 (List.mem_cons_of_mem _ hz)) with e | e
      · subst e; exact absurd (hb.1 z hz) (by omega)
      · exact e
/-! ### the maker -/
structure PS where
  classes : List C4
  rules : List Int
  follow : List (List Int)
  last : List Bool
structure Shape where
  empty : Bool
  first : List Int
  last : List Int
def behindF (fol : List (List Int)) (last first : List Int) : List (List Int) := last.foldl (fun f x => f.set x.toNat (uni (f.getD x.toNat []) first)) fol
def nodeF (rule : Int) : Re → PS → Shape × PS
  | .empty, p => (⟨true, [], []⟩, p)
  | .none, p => (⟨false, [], []⟩, p)
  | .byte c, p => (⟨false, [(p.classes.length : Int)], [(p.classes.length : Int)]⟩, ⟨p.classes ++ [c], p.rules ++ [rule], p.follow ++ [[]], p.last ++ [false]⟩)
  | .star a, p => (⟨true, (nodeF rule a p).1.first, (nodeF rule a p).1.last⟩, { (nodeF rule a p).2 with follow := behindF (nodeF rule a p).2.follow (nodeF rule a p).1.last (nodeF rule a p).1.first })
  | .alt a b, p => (⟨(nodeF rule a p).1.empty || (nodeF rule b (nodeF rule a p).2).1.empty, uni (nodeF rule a p).1.first (nodeF rule b (nodeF rule a p).2).1.first, uni (nodeF rule a p).1.last (nodeF rule b (nodeF rule a p).2).1.last⟩, (nodeF rule b (nodeF rule a p).2).2)
  | .cat a b, p =>
    (⟨(nodeF rule a p).1.empty && (nodeF rule b (nodeF rule a p).2).1.empty,
      if (nodeF rule a p).1.empty then uni (nodeF rule a p).1.first (nodeF rule b (nodeF rule a p).2).1.first else (nodeF rule a p).1.first,
      if (nodeF rule b (nodeF rule a p).2).1.empty then uni (nodeF rule a p).1.last (nodeF rule b (nodeF rule a p).2).1.last else (nodeF rule b (nodeF rule a p).2).1.last⟩,
     { (nodeF rule b (nodeF rule a p).2).2 with follow := behindF (nodeF rule b (nodeF rule a p).2).2.follow (nodeF rule a p).1.last (nodeF rule b (nodeF rule a p).2).1.first })
structure PSOk (p : PS) : Prop where
  rules : p.rules.length = p.classes.length
  follow : p.follow.length = p.classes.length
  last : p.last.length = p.classes.length
  ris : ∀ l ∈ p.follow, Ris p.classes.length l
theorem behind_len (fol : List (List Int)) (last first : List Int) : (behindF fol last first).length = fol.length := by
  unfold behindF
  induction last generalizing fol with
  | nil => rfl
  | cons x r ih => rw [List.foldl_cons, ih, List.length_set]
theorem behind_ris {n : Nat} {first : List Int} (hf : ∀ x ∈ first, 0 ≤ x ∧ x < n) : ∀ (last : List Int) (fol : List (List Int)), (∀ l ∈ fol, Ris n l) → ∀ l ∈ behindF fol last first, Ris n l
  | [], fol, h => h
  | x :: r, fol, h => by
    show ∀ l ∈ behindF (fol.set x.toNat (uni (fol.getD x.toNat []) first)) r first, Ris n l
    refine behind_ris hf r _ fun l hl => ?_
    rcases List.mem_or_eq_of_mem_set hl with hl | rfl
    · exact h l hl
    · refine ris_uni (fun y hy => ?_) hf
      by_cases c : x.toNat < fol.length
      · rw [List.getD_eq_getElem?_getD, List.getElem?_eq_getElem c] at hy
        exact (h _ (List.getElem_mem c)).2 y hy
      · rw [List.getD_eq_getElem?_getD, List.getElem?_eq_none (by omega)] at hy
        cases hy
theorem node_ok (rule : Int) : ∀ (e : Re) (p : PS), PSOk p → PSOk (nodeF rule e p).2 ∧ p.classes.length ≤ (nodeF rule e p).2.classes.length ∧ (nodeF rule e p).2.classes.length ≤ p.classes.length + e.size ∧ Ris (nodeF rule e p).2.classes.length (nodeF rule e p).1.first ∧ Ris (nodeF rule e p).2.classes.length (nodeF rule e p).1.last
  | .empty, p, h => ⟨h, Nat.le_refl _, Nat.le_add_right _ _, ris_nil _, ris_nil _⟩
  | .none, p, h => ⟨h, Nat.le_refl _, Nat.le_add_right _ _, ris_nil _, ris_nil _⟩
  | .byte c, p, h => by
    have h1 : Ris (p.classes ++ [c]).length [(p.classes.length : Int)] := ⟨List.pairwise_singleton _ _, fun x hx => by rw [List.mem_singleton.1 hx, List.length_append, List.length_singleton]; omega⟩
    refine ⟨⟨?_, ?_, ?_, fun l hl => ?_⟩, ?_, ?_, h1, h1⟩
    · show (p.rules ++ [rule]).length = (p.classes ++ [c]).length; rw [List.length_append, List.length_append, h.rules]; rfl
    · show (p.follow ++ [[]]).length = (p.classes ++ [c]).length; rw [List.length_append, List.length_append, h.follow]; rfl
    · show (p.last ++ [false]).length = (p.classes ++ [c]).length; rw [List.length_append, List.length_append, h.last]; rfl
    · have hl : l ∈ p.follow ++ [[]] := hl
      show Ris (p.classes ++ [c]).length l
      rcases List.mem_append.1 hl with hl | hl
      · exact ris_mono (h.ris l hl) (by simp)
      · rw [List.mem_singleton.1 hl]; exact ris_nil _
    · show p.classes.length ≤ (p.classes ++ [c]).length; simp
    · show (p.classes ++ [c]).length ≤ _; simp [Re.size]
  | .star a, p, h => by
    obtain ⟨h1, h2, h3, h4, h5⟩ := node_ok rule a p h
    exact ⟨⟨h1.rules, (behind_len _ _ _).trans h1.follow, h1.last, behind_ris h4.2 _ _ h1.ris⟩, h2, by show _ ≤ p.classes.length + (a.size + 1); exact Nat.le_trans h3 (by omega), h4, h5⟩
  | .alt a b, p, h => by
    obtain ⟨h1, h2, h3, h4, h5⟩ := node_ok rule a p h
    obtain ⟨k1, k2, k3, k4, k5⟩ := node_ok rule b _ h1
    exact ⟨k1, Nat.le_trans h2 k2, by show _ ≤ p.classes.length + (a.size + b.size + 1); exact Nat.le_trans k3 (by omega), ris_uni (ris_mono h4 k2).2 k4.2, ris_uni (ris_mono h5 k2).2 k5.2⟩
  | .cat a b, p, h => by
    obtain ⟨h1, h2, h3, h4, h5⟩ := node_ok rule a p h
    obtain ⟨k1, k2, k3, k4, k5⟩ := node_ok rule b _ h1
    refine ⟨⟨k1.rules, (behind_len _ _ _).trans k1.follow, k1.last, behind_ris k4.2 _ _ k1.ris⟩, Nat.le_trans h2 k2, by show _ ≤ p.classes.length + (a.size + b.size + 1); exact Nat.le_trans k3 (by omega), ?_, ?_⟩
    · show Ris _ (if _ then _ else _)
      split
      · exact ris_uni (ris_mono h4 k2).2 k4.2
      · exact ris_mono h4 k2
    · show Ris _ (if _ then _ else _)
      split
      · exact ris_uni (ris_mono h5 k2).2 k5.2
      · exact k5
end Go.Proofs.YtkcnoompimohnaaDoor.placesL

/- PlacesM -/
namespace Go.Proofs.YtkcnoompimohnaaDoor.placesL
open classL rexL
structure MS where
  ps : PS
  first : List Int
  empty : List Bool
def MS.zero : MS := ⟨⟨[], [], [], []⟩, [], []⟩
def markF (last : List Bool) (l : List Int) : List Bool := l.foldl (fun b x => b.set x.toNat true) last
def stepM (i : Nat) (m : MS) (e : Re) : MS :=
  ⟨{ (nodeF i e m.ps).2 with last := markF (nodeF i e m.ps).2.last (nodeF i e m.ps).1.last }, uni m.first (nodeF i e m.ps).1.first, m.empty ++ [(nodeF i e m.ps).1.empty]⟩
def loopM : Nat → MS → List Re → Int × MS
  | _, m, [] => (0, m)
  | i, m, e :: r => if 200 < (stepM i m e).ps.classes.length then (2, .zero) else loopM (i + 1) (stepM i m e) r
abbrev chkR (r : Rx) : Int := (chk r 1 0).1
/-- the first rule that is none tells the error -/
def checkM : List Rx → Int
  | [] => 0
  | r :: l => if chkR r ≠ 0 then chkR r else checkM l
structure MSOk (m : MS) : Prop where
  ps : PSOk m.ps
  first : Ris m.ps.classes.length m.first
theorem mark_len (last : List Bool) (l : List Int) : (markF last l).length = last.length := by
  unfold markF
  induction l generalizing last with
  | nil => rfl
  | cons x r ih => rw [List.foldl_cons, ih, List.length_set]
theorem mark_step (last : List Bool) (l : List Int) {k : Nat} (hk : k < l.length) : markF last (l.take (k + 1)) = (markF last (l.take k)).set l[k].toNat true := by
  unfold markF
  rw [List.take_succ_eq_append_getElem hk, List.foldl_append]; rfl
theorem zero_ok : MSOk .zero := ⟨⟨rfl, rfl, rfl, fun l h => by cases h⟩, ris_nil _⟩
theorem step_ok (i : Nat) {m : MS} (h : MSOk m) (e : Re) : MSOk (stepM i m e) ∧ (stepM i m e).ps.classes.length ≤ m.ps.classes.length + e.size := by
  obtain ⟨h1, h2, h3, h4, h5⟩ := node_ok i e m.ps h.ps
  exact ⟨⟨⟨h1.rules, h1.follow, (mark_len _ _).trans h1.last, h1.ris⟩, ris_uni (ris_mono h.first h2).2 h4.2⟩, h3⟩
theorem check_all : ∀ {l : List Rx}, checkM l = 0 → ∀ r ∈ l, chkR r = 0
  | [], _, r, hr => by cases hr
  | q :: l, h, r, hr => by
    rw [checkM] at h
    split at h
    · contradiction
    · rename_i c
      rcases List.mem_cons.1 hr with rfl | hr
      · simpa using c
      · exact check_all h r hr
end Go.Proofs.YtkcnoompimohnaaDoor.placesL

/- PlacesS -/
namespace Go.Proofs.YtkcnoompimohnaaDoor.placesL
open classL rexL
def markB (cl : List C4) (b : Nat) (ins : List Bool) (l : List Int) : List Bool := l.foldl (fun ins x => ins.set x.toNat (ins.getD x.toNat false || (cl.getD x.toNat C4.zero).mem b)) ins
def insF (p : PS) (first now : List Int) (isF : Bool) (b : Nat) : List Bool :=
  now.foldl (fun ins x => markB p.classes b ins (p.follow.getD x.toNat [])) (if isF then markB p.classes b (List.replicate 200 false) first else List.replicate 200 false)
/-- the numbers up to k of those that are set -/
def truesTo (l : List Bool) (k : Nat) : List Int := ((List.range k).filter fun i => l.getD i false).map Int.ofNat
def stepP (m : MS) (now : List Int) (isF : Bool) (b : Nat) : List Int := truesTo (insF m.ps m.first now isF b) 200
def runP (m : MS) : List UInt8 → List Int
  | [] => []
  | b :: s => s.foldl (fun now b => stepP m now false b.toNat) (stepP m [] true b.toNat)
/-- what a Posn is when Make made it -/
structure MOkP (m : MS) : Prop where
  ok : MSOk m
  rules : ∀ r ∈ m.ps.rules, 0 ≤ r ∧ r < m.empty.length
  few : m.ps.classes.length ≤ 200
  some : 0 < m.empty.length
  most : m.empty.length ≤ 20
theorem markB_len (cl : List C4) (b : Nat) (ins : List Bool) (l : List Int) : (markB cl b ins l).length = ins.length := by
  unfold markB
  induction l generalizing ins with
  | nil => rfl
  | cons x r ih => rw [List.foldl_cons, ih, List.length_set]
theorem trues_succ (l : List Bool) (k : Nat) : truesTo l (k + 1) = truesTo l k ++ (if l.getD k false then [(k : Int)] else []) := by
  unfold truesTo
  rw [List.range_succ, List.filter_append, List.map_append]
  congr 1
  by_cases c : l.getD k false = true
  · rw [List.filter_cons_of_pos (p := fun i => l.getD i false) c, if_pos c]; rfl
  · rw [List.filter_cons_of_neg (p := fun i => l.getD i false) c, if_neg c]; rfl
theorem trues_mem {l : List Bool} {k : Nat} {x : Int} : x ∈ truesTo l k ↔ ∃ i : Nat, x = i ∧ i < k ∧ l.getD i false = true := by
  unfold truesTo
  rw [List.mem_map]
  constructor
  · rintro ⟨i, h, rfl⟩
    rw [List.mem_filter, List.mem_range] at h
    exact ⟨i, rfl, h.1, h.2⟩
  · rintro ⟨i, rfl, h1, h2⟩
    exact ⟨i, by rw [List.mem_filter, List.mem_range]; exact ⟨h1, h2⟩, rfl⟩
theorem trues_rising (l : List Bool) (k : Nat) : (truesTo l k).Pairwise (· < ·) := by
  unfold truesTo
  rw [List.pairwise_map]
  exact (List.pairwise_lt_range.filter _).imp fun h => Int.ofNat_lt.2 h
theorem trues_ris (l : List Bool) (k : Nat) : Ris k (truesTo l k) :=
  ⟨trues_rising l k, fun x hx => by obtain ⟨i, rfl, h, _⟩ := trues_mem.1 hx; omega⟩
theorem trues_len (l : List Bool) (k : Nat) : (truesTo l k).length ≤ k := ris_len (trues_ris l k)
theorem set_getD {α : Type} {l : List α} {i j : Nat} {a d : α} : (l.set i a).getD j d = if i = j ∧ j < l.length then a else l.getD j d := by
  rw [List.getD_eq_getElem?_getD, List.getD_eq_getElem?_getD, List.getElem?_set]
  by_cases c : i = j
  · subst c
    by_cases c2 : i < l.length
    · simp [c2]
    · rw [if_pos rfl, if_neg c2, if_neg (fun h => c2 h.2), List.getElem?_eq_none (by omega)]
  · rw [if_neg c, if_neg (fun h => c h.1)]
/-- what is marked -/
theorem markB_get (cl : List C4) (b : Nat) : ∀ (l : List Int) (ins : List Bool) (j : Nat), (∀ x ∈ l, 0 ≤ x ∧ x < ins.length) → ((markB cl b ins l).getD j false = true ↔ ins.getD j false = true ∨ ((j : Int) ∈ l ∧ (cl.getD j C4.zero).mem b = true))
  | [], ins, j, _ => ⟨.inl, fun h => h.elim id fun h => by cases h.1⟩
  | x :: l, ins, j, h => by
    have hx := h x (List.mem_cons_self ..)
    show (markB cl b (ins.set x.toNat _) l).getD j false = true ↔ _
    rw [markB_get cl b l _ j (fun y hy => by rw [List.length_set]; exact h y (List.mem_cons_of_mem _ hy)), set_getD]
    by_cases c : x.toNat = j ∧ j < ins.length
    · rw [if_pos c, Bool.or_eq_true, c.1]
      have hxj : (j : Int) = x := by omega
      constructor
      · rintro ((h1 | h1) | ⟨h1, h2⟩)
        · exact .inl h1
        · exact .inr ⟨by rw [hxj]; exact List.mem_cons_self .., h1⟩
        · exact .inr ⟨List.mem_cons_of_mem _ h1, h2⟩
      · rintro (h1 | ⟨_, h2⟩)
        · exact .inl (.inl h1)
        · exact .inl (.inr h2)
    · rw [if_neg c]
      have hne : (j : Int) ≠ x := fun e => c ⟨by omega, by omega⟩
      constructor
      · rintro (h1 | ⟨h1, h2⟩)
        · exact .inl h1
        · exact .inr ⟨List.mem_cons_of_mem _ h1, h2⟩
      · rintro (h1 | ⟨h1, h2⟩)
        · exact .inl h1
        · rcases List.mem_cons.1 h1 with e | e
          · exact absurd e hne
          · exact .inr ⟨e, h2⟩
theorem insF_in {m : MS} (h : MOkP m) (now : List Int) (isF : Bool) (b : Nat) {j : Nat} (hj : (insF m.ps m.first now isF b).getD j false = true) : j < m.ps.classes.length := by
  have hf : ∀ x : Int, ∀ y ∈ m.ps.follow.getD x.toNat [], 0 ≤ y ∧ y < m.ps.classes.length := fun x y hy => by
    by_cases c : x.toNat < m.ps.follow.length
    · rw [List.getD_eq_getElem?_getD, List.getElem?_eq_getElem c] at hy
      exact (h.ok.ps.ris _ (List.getElem_mem c)).2 y hy
    · rw [List.getD_eq_getElem?_getD, List.getElem?_eq_none (by omega)] at hy; cases hy
  have h200 := h.few
  unfold insF at hj
  have key : ∀ (now : List Int) (ins : List Bool), ins.length = 200 → (∀ i, ins.getD i false = true → i < m.ps.classes.length) → ∀ i, (now.foldl (fun ins x => markB m.ps.classes b ins (m.ps.follow.getD x.toNat [])) ins).getD i false = true → i < m.ps.classes.length := by
    intro now
    induction now with
    | nil => intro ins _ h i hi; exact h i hi
    | cons x r ih =>
      intro ins hl hi i hi'
      rw [List.foldl_cons] at hi'
      refine ih _ (by rw [markB_len]; exact hl) (fun i hh => ?_) i hi'
      rcases (markB_get _ _ _ _ _ (fun y hy => by have := hf x y hy; omega)).1 hh with h1 | h1
      · exact hi i h1
      · have := hf x i h1.1; omega
  refine key now _ ?_ (fun i hi => ?_) j hj
  · split
    · rw [markB_len, List.length_replicate]
    · rw [List.length_replicate]
  · have hrep : ∀ i, (List.replicate 200 false).getD i false = true → False := fun i hi => by
      rw [List.getD_eq_getElem?_getD, List.getElem?_replicate] at hi
      split at hi <;> cases hi
    split at hi
    · rcases (markB_get _ _ _ _ _ (fun y hy => by have := h.ok.first.2 y hy; rw [List.length_replicate]; omega)).1 hi with h1 | h1
      · exact (hrep _ h1).elim
      · have := h.ok.first.2 i h1.1; omega
    · exact (hrep _ hi).elim
theorem step_in {m : MS} (h : MOkP m) (now : List Int) (isF : Bool) (b : Nat) : Ris m.ps.classes.length (stepP m now isF b) :=
  ⟨trues_rising _ _, fun x hx => by obtain ⟨i, rfl, _, hi⟩ := trues_mem.1 hx; have := insF_in h now isF b hi; omega⟩
theorem runPin {m : MS} (h : MOkP m) (s : List UInt8) : Ris m.ps.classes.length (runP m s) := by
  cases s with
  | nil => exact ris_nil _
  | cons b s =>
    show Ris _ (s.foldl _ _)
    have h0 := step_in h [] true b.toNat
    generalize stepP m [] true b.toNat = now at *
    induction s generalizing now with
    | nil => exact h0
    | cons c s ih => rw [List.foldl_cons]; exact ih _ (step_in h _ _ _)
/-! ### Make's own -/
theorem node_rules (rule : Int) : ∀ (e : Re) (p : PS), (∀ r ∈ p.rules, 0 ≤ r ∧ r ≤ rule) → 0 ≤ rule → ∀ r ∈ (nodeF rule e p).2.rules, 0 ≤ r ∧ r ≤ rule
  | .empty, p, h, _ => h
  | .none, p, h, _ => h
  | .byte c, p, h, h0 => fun r hr => by
    have hr : r ∈ p.rules ++ [rule] := hr
    rcases List.mem_append.1 hr with hr | hr
    · exact h r hr
    · rw [List.mem_singleton.1 hr]; omega
  | .star a, p, h, h0 => node_rules rule a p h h0
  | .alt a b, p, h, h0 => node_rules rule b _ (node_rules rule a p h h0) h0
  | .cat a b, p, h, h0 => node_rules rule b _ (node_rules rule a p h h0) h0
theorem loop_ok : ∀ (es : List Re) (i : Nat) (m m' : MS), MSOk m → m.empty.length = i → (∀ r ∈ m.ps.rules, 0 ≤ r ∧ r < i) → m.ps.classes.length ≤ 200 → loopM i m es = (0, m') → MSOk m' ∧ m'.empty.length = i + es.length ∧ (∀ r ∈ m'.ps.rules, 0 ≤ r ∧ r < (i + es.length : Nat)) ∧ m'.ps.classes.length ≤ 200
  | [], i, m, m', h1, h2, h3, h4, h => by
    cases h
    exact ⟨h1, h2, fun r hr => by have := h3 r hr; simpa using this, h4⟩
  | e :: r, i, m, m', h1, h2, h3, h4, h => by
    rw [loopM] at h
    split at h
    · cases h
    · rename_i c
      have := loop_ok r (i + 1) (stepM i m e) m' (step_ok i h1 e).1 (by show (m.empty ++ [_]).length = _; simp [h2]) (fun x hx => by
        have := node_rules i e m.ps (fun r hr => by have := h3 r hr; omega) (by omega) x hx; omega) (by omega) h
      rw [List.length_cons]
      rw [show i + (r.length + 1) = i + 1 + r.length by omega]
      exact this
theorem make_ok {es : List Re} {m : MS} (h0 : 0 < es.length) (h20 : es.length ≤ 20) (h : loopM 0 .zero es = (0, m)) : MOkP m := by
  obtain ⟨h1, h2, h3, h4⟩ := loop_ok es 0 .zero m zero_ok rfl (fun r hr => by cases hr) (Nat.zero_le _) h
  rw [Nat.zero_add] at h2 h3
  exact ⟨h1, fun r hr => by have := h3 r hr; omega, h4, by omega, by omega⟩
end Go.Proofs.YtkcnoompimohnaaDoor.placesL

