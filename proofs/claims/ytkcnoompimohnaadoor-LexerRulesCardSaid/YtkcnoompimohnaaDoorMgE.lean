/- Part 5 of what LexerRules needs: ClassT, RexM, RexE, ClassP, RexP, SmO, SmT, DfX, DfM, Made, DfQ, MadeL, RexW, PmM, MchL, SmK, Fam. -/
import Derived.Test.YtkcnoompimohnaaDoorMgD
import Derived.WalkKit
import Derived.WalkSpells
import Derived.WalkLawsBesides
import Derived.Deep.RegionLaw
import Derived.Deep.AppendLies
import Derived.Deep.QuietTactic
import Derived.BigQuiet
import Derived.Deep.DeepCutAuto
import Derived.Lib.Hide
import Derived.Test.YtkcnoompimohnaaDoorRows
import Derived.ProofKit
import Derived.OpenShut
import Derived.ShutString
import Derived.SizedLaws
import Derived.JoinedCond
import Derived.Deep.CondSized
import Derived.Deep.Quiet
import Derived.StillTail
import Derived.Deep.LoopGhost
import Derived.Laws.BitsLemmas
import Derived.Laws.BytesString
import Derived.Test.YtkcnoompimohnaaDoorProg
import Derived.Laws.Entries
import Derived.Laws.BitsAllLaws
import Derived.Laws.StructEq
import Derived.ChangeKeysEq
import Derived.Lib.TrailingZeros
import Derived.Laws.MakeOwn
import Derived.Laws.AppendOwn
import Derived.Laws.Bits64b
import Derived.Maps.OwnSet
import Derived.DeepKeys4
import Derived.WideKeyEntry
import Derived.Handed
import Derived.Lay
import Derived.Lib.LaidTab
import Derived.MakeChecks
import Derived.Lib.SlicesCompact
import Derived.Shelf.Sort.Plain
import Derived.Ground.Names2Prog
import Derived.Shelf.Slices.CompactI
import Derived.Shelf.Slices.In.SortNone
import Derived.Lib.RowBridge
/- ClassT -/
namespace Go.Proofs.YtkcnoompimohnaaDoor.eng
open Go.RowKit kit mix classL
theorem map_getD {β : Type} (f : Nat → β) (l : List Nat) (j : Nat) (h : j < l.length) : (l.map f)[j]? = some (f (l.getD j 0)) := by
  rw [List.getElem?_map, List.getD_eq_getElem?_getD, List.getElem?_eq_getElem h]; rfl
theorem tab_len : Lib.deBruijn64tab.length = 64 := by decide
theorem tab_at (j : Nat) (h : j < 64) : tabC[j]? = some (.int .u8 ((Lib.deBruijn64tab.getD j 0 : Nat) : Int)) := map_getD (fun (n : Nat) => Value.int .u8 (n : Int)) Lib.deBruijn64tab j (by rw [tab_len]; exact h)
theorem tab_key (c : Nat) (hk : c < 64) : 2 ^ c * 285870213051353865 % 18446744073709551616 / 288230376151711744 < 64 ∧ tabC[2 ^ c * 285870213051353865 % 18446744073709551616 / 288230376151711744]? = some (.int .u8 (c : Int)) := by
  obtain ⟨hi, htab⟩ := Lib.deBruijn64_at _ hk
  have h := tab_at _ hi
  rw [htab] at h
  exact ⟨hi, h⟩
theorem tz_calls (x : Nat) (hx : x < 18446744073709551616) (h0 : x ≠ 0) (w : World) (hT : TabW w) : Calls Tryd.prog 70 #[.int .u64 (x : Int)] w (Meets (ret (.int .i64 (Lib.ctz 64 x : Int))) w) := by
  refine enter (args := [.int .u64 (x : Int)]) (n := 14) Tryd.func70 rfl rfl rfl ?_
  obtain ⟨hlow, hk⟩ := Lib.lowest_bit 64 x h0 (by simpa using hx)
  obtain ⟨hi, hcell⟩ := tab_key _ hk
  have a1 := bits_and_u64_nat x (18446744073709551616 - x) hx (by omega)
  simp only [Nat.reducePow] at hlow
  rw [hlow] at a1
  clear hlow
  generalize Lib.ctz 64 x = c at *
  have h4 : 0 < 2 ^ c := Nat.two_pow_pos c
  have hc := mulw (a := 2 ^ c) (b := 285870213051353865) rfl
  generalize 2 ^ c * 285870213051353865 % 18446744073709551616 = m at *
  have hsh : ∀ w, (Op.shift .shr .u64 (m : Int) .u64 58).run Tryd.prog w = .ok (.int .u64 ((m / 288230376151711744 : Nat) : Int)) w := fun w => shrU m 58 64 .u64 .u64 rfl (by decide) w
  generalize m / 288230376151711744 = j at *
  repeat (first
    | refine QV QP ?_ | refine QZ ?_ | refine qcT rfl ?_ | refine qcF rfl ?_ | refine QV (rr_eql rfl rfl (decide_eq_false (by omega))) ?_
    | refine QV (rr_neg rfl (neg64 h0 hx)) ?_ | refine QV (rr_and rfl rfl a1) ?_ | refine QV (rr_mulw rfl rfl hc) ?_ | refine QV (rr_shr rfl rfl hsh) ?_
    | refine QV (rr_aidx1 Und.eq TyC.ty rfl rfl hi) ?_ | refine QV (rr_load1 TyC.ty rfl (at_rd hT hcell)) ?_
    | refine QV (rr_conv Und.eq Und.eq rfl (wrap_in (by omega) (by omega))) ?_ | refine QV QeT ?_ | refine QV QeF ?_)
  exact E_ret1 rfl rfl fun w hm => hm.ret
theorem rr_subw {P : Program} {n : Nat} {W : Base} {fr : Fr} {L : List Own} {dst : Option Tmp} {t u ty : TypeId} {pos : String} {after : Array Edge} {guard : Option (Nat × Bool)} {x y : Operand} {k : IntKind} {m m' r : Int} (hx : ev fr x = some (.int k m)) (hy : ev fr y = some (.int k m')) (h : k.wrap (m - m') = r) : RR P n W ⟨dst, .binOp .sub t x y u, ty, pos, after, guard⟩ fr L (.int k r) := h ▸ rr_sub hx hy
theorem shl6 : ∀ i : Nat, i < 4 → ∀ w, (Op.shift .shl .i64 (i : Int) .u64 6).run Tryd.prog w = .ok (.int .i64 ((64 * i : Nat) : Int)) w := fun i h w => by
  match i, h with
  | 0, _ => rfl
  | 1, _ => rfl
  | 2, _ => rfl
  | 3, _ => rfl
theorem or64i : ∀ i : Nat, i < 4 → ∀ t : Nat, t < 64 → bits .or .i64 ((64 * i : Nat) : Int) (t : Int) = ((64 * i + t : Nat) : Int) := by decide +kernel
/-- the bytes of a class, as a string -/
def strL (c : C4) : List UInt8 := (bytesL c).map UInt8.ofNat
def toL (c : C4) (i : Nat) : List UInt8 := (bytesTo c i).map UInt8.ofNat
def upL (i x : Nat) : List UInt8 := (bitsOf x).map fun j => UInt8.ofNat (64 * i + j)
theorem toL_next (c : C4) (i : Nat) : toL c (i + 1) = toL c i ++ upL i (c.get i).toNat := by
  simp only [toL, upL, bytesTo, List.map_append, List.map_map]; rfl
theorem u8of {m : Nat} (h : m < 256) : IntKind.u8.wrap (m : Int) = ((UInt8.ofNat m).toNat : Int) := by
  rw [IntKind.wrap_u8]; simp
set_option maxHeartbeats 1000000 in
theorem bytes_calls (c : C4) (w : World) (hT : TabW w) : Calls Tryd.prog 63 #[clsV c] w (Meets (ret (str (strL c))) w) := by
  refine enter (args := [.agg #[v64 c.a, v64 c.b, v64 c.c, v64 c.d]]) (n := 29) Tryd.func63 rfl rfl rfl ?_
  refine T_seq (T_region (TL_box rfl rfl rfl fun g => ?_))
  repeat (first
    | refine QV QP ?_ | refine QZ ?_ | refine qcT rfl ?_ | refine qcF rfl ?_ | refine E_blockX ?_ | refine E_blockO rfl ?_
    | refine QV (rr_loadB (i := 0) TyC.ty rfl rfl rfl) ?_ | refine QV QlT ?_ | refine QV QlF ?_ | refine QV QnT ?_ | refine QV QnF ?_ | refine QV QaA ?_)
  refine T_nil 5 1 ?_
  refine T_loop (ι := Nat × Value) (fun (i, _) => i ≤ 4) (fun (i, v) => [(3, v), (6, .agg #[v64 c.a, v64 c.b, v64 c.c, v64 c.d]), (7, .int .i64 (i : Int))]) (fun (i, v) => [blkO g (Value.agg #[v64 c.a, v64 c.b, v64 c.c, v64 c.d]).cells 31, rowO 5 1 v (toL c i).length ((toL c i).map u8v)]) (fun (i, _) => 4 - i) (0, .slice none 0 0) (by show 0 ≤ 4; omega) (by repeat' (first | exact True.intro | refine And.intro rfl ?_)) rfl ?_
  rintro ⟨i, v⟩ hi
  dsimp only at hi ⊢
  by_cases h4 : i < 4
  · have hc := cls_cell c i h4
    have hx := (c.get i).isLt
    have hnx := toL_next c i
    have hl : (toL c i).length ≤ 64 * i := by have := bytesTo_len c i; simpa [toL] using this
    have hsh := shl6 i h4
    have hor := or64i i h4
    repeat (first
      | refine QV QP ?_ | refine QZ ?_ | refine qcT rfl ?_ | refine qcF rfl ?_ | refine E_blockX ?_ | refine E_blockO rfl ?_
      | refine QV (rr_arridx Und.eq TyC.ty rfl rfl h4 hc) ?_ | refine QV QlT ?_ | refine QV QlF ?_ | refine QV QnT ?_ | refine QV QnF ?_ | refine QV QaA ?_)
    refine T_loop (ι := List UInt8 × Nat × Value) (fun (o, x, _) => o ++ upL i x = toL c (i + 1) ∧ x < 18446744073709551616 ∧ o.length + (bitsOf x).length ≤ 256) (fun (o, x, v) => [(3, v), (4, .int .i64 (i : Int)), (5, .int .u64 (x : Int)), (6, .agg #[v64 c.a, v64 c.b, v64 c.c, v64 c.d]), (7, .int .i64 (i : Int))]) (fun (o, _, v) => [blkO g (Value.agg #[v64 c.a, v64 c.b, v64 c.c, v64 c.d]).cells 31, rowO 5 1 v o.length (o.map u8v)]) (fun (_, x, _) => x) (toL c i, (c.get i).toNat, v) ⟨hnx.symm, hx, ?_⟩ (by repeat' (first | exact True.intro | refine And.intro rfl ?_)) rfl ?_
    · have := ones_le 64 (c.get i).toNat
      rw [bits_len]; omega
    clear hnx hl hx hc
    rintro ⟨o, x, v2⟩ ⟨k1, k2, k3⟩
    dsimp only at k1 k2 k3 ⊢
    by_cases h0 : x = 0
    · subst h0
      have e : o = toL c (i + 1) := by rw [← k1]; simp [upL, bits_zero]
      subst e
      repeat (first
        | refine QV QP ?_ | refine QZ ?_ | refine qcT rfl ?_ | refine qcF rfl ?_ | refine E_blockX ?_ | refine E_blockO rfl ?_ | refine QV QlT ?_
        | refine QV QlF ?_ | refine QV QnT ?_ | refine QV QnF ?_ | refine QV QaA ?_)
      exact E_round (i + 1, v2) (by show i + 1 ≤ 4; omega) (by show 4 - (i + 1) < 4 - i; omega) (by repeat' (first | exact True.intro | refine And.intro rfl ?_)) rfl
    · obtain ⟨q1, q2, q3⟩ := bits_step x h0 k2
      have htz := tz_calls x k2 h0
      have hb : o.length + 1 ≤ 256 := by rw [q2] at k3; simp at k3; omega
      have hor2 := hor _ q1
      have ha := bits_and_u64_nat x (x - 1) k2 (by omega)
      have hsub : IntKind.u64.wrap ((x : Int) - 1) = ((x - 1 : Nat) : Int) := by rw [IntKind.wrap_u64]; omega
      have hu8 : IntKind.u8.wrap ((64 * i + Lib.ctz 64 x : Nat) : Int) = ((UInt8.ofNat (64 * i + Lib.ctz 64 x)).toNat : Int) := u8of (by omega)
      have hup : upL i x = UInt8.ofNat (64 * i + Lib.ctz 64 x) :: upL i (x &&& (x - 1)) := by simp [upL, q2]
      have hlen : (bitsOf x).length = (bitsOf (x &&& (x - 1))).length + 1 := by rw [q2]; rfl
      clear q2
      generalize Lib.ctz 64 x = z at *
      generalize x &&& (x - 1) = y at *
      repeat (first
        | refine QV QP ?_ | refine QZ ?_ | refine qcT rfl ?_ | refine qcF rfl ?_ | refine E_blockX ?_ | refine E_blockO rfl ?_
        | refine QV (rr_shl rfl rfl hsh) ?_ | refine QV QlT ?_ | refine QV QlF ?_ | refine QV QnT ?_ | refine QV QnF ?_ | refine QV QaA ?_)
      refine TL_call (he1 EntersC.en rfl rfl) (fun w hm => htz _ (hT.up hm)) rfl rfl rfl ?_
      intro _ _
      repeat (first
        | refine QV QP ?_ | refine QZ ?_ | refine qcT rfl ?_ | refine qcF rfl ?_ | refine E_blockX ?_ | refine E_blockO rfl ?_
        | refine QV (rr_or rfl rfl hor2) ?_ | refine QV (rr_conv Und.eq Und.eq rfl hu8) ?_ | refine QV QlT ?_ | refine QV QlF ?_ | refine QV QnT ?_
        | refine QV QnF ?_ | refine QV QaA ?_)
      refine TL_push1 (i := 1) rfl rfl rfl rfl rfl rfl (fun z h => by cases h; rfl) (by omega) (by omega) rfl fun z' v' => ?_
      repeat (first
        | refine QV QP ?_ | refine QZ ?_ | refine qcT rfl ?_ | refine qcF rfl ?_ | refine E_blockX ?_ | refine E_blockO rfl ?_
        | refine QV (rr_subw rfl rfl hsub) ?_ | refine QV (rr_and rfl rfl ha) ?_ | refine QV QlT ?_ | refine QV QlF ?_ | refine QV QnT ?_ | refine QV QnF ?_
        | refine QV QaA ?_)
      refine E_pick [0, 1] (by decide) rfl ?_
      exact E_round (o ++ [UInt8.ofNat (64 * i + z)], y, v') ⟨by rw [List.append_assoc, ← k1, hup]; rfl, by show y < _; omega, by show (o ++ [_]).length + (bitsOf y).length ≤ _; simp; omega⟩ q3 (by repeat' (first | exact True.intro | refine And.intro rfl ?_)) (by simp only [List.map_append, List.length_append, List.map_cons, List.map_nil, List.length_cons, List.length_nil]; rfl)
  · obtain rfl : i = 4 := by omega
    have hs : toL c 4 = strL c := by unfold toL strL; rw [bytes_to]
    rw [hs]
    repeat (first
      | refine QV QP ?_ | refine QZ ?_ | refine qcT rfl ?_ | refine qcF rfl ?_ | refine E_blockX ?_ | refine E_blockO rfl ?_
      | refine QV (rr_string Und.eq Und.eq Und.eq rfl rfl (sl_row (i := 1) rfl)) ?_ | refine QV QlT ?_ | refine QV QlF ?_ | refine QV QnT ?_ | refine QV QnF ?_
      | refine QV QaA ?_)
    exact E_ret1 rfl rfl fun w hm => hm.ret
end Go.Proofs.YtkcnoompimohnaaDoor.eng

/- RexM -/
namespace Go.Proofs.YtkcnoompimohnaaDoor.eng
open Go.RowKit kit mix classL rexL classSets
/-! ### keys: a node and a place -/
abbrev At2 := Int × Int
def atC (p : At2) : List Value := [.int .i64 p.1, .int .i64 p.2]
def atV (p : At2) : Value := .agg (atC p).toArray
set_option maxRecDepth 100000 in
theorem at_key (p : At2) (h : kit.okI64 p.1 ∧ kit.okI64 p.2) : ∃ l, keyOf Tryd.prog 126 (atV p) = some l := by
  have e1 : Tryd.prog.cellsOf 126 = 2 := by kernel_rfl
  have e3 : Tryd.prog.cellsOf 3 = 1 := by kernel_rfl
  refine key_ex (m := 2) (by kernel_rfl) (by kernel_rfl) (by rw [e1]; rfl) (trySize 2 (by kernel_rfl)) fun d => ?_
  refine kl_struct (d := d + 1) Tryd.underlying126 (by rw [e1]; rfl) (by kernel_rfl) fun f hf => ?_
  simp only [List.mem_cons, List.not_mem_nil, or_false] at hf
  rcases hf with rfl | rfl
  · rw [e3]
    exact kl_int Tryd.underlying3 h.1.1 h.1.2
  · rw [e3]
    exact kl_int Tryd.underlying3 h.2.1 h.2.2
theorem atRow : (126 : TypeId) < Tryd.prog.types.size := of_decide_eq_true (by kernel_rfl)
set_option maxRecDepth 100000 in
def atK : KeyT Tryd.prog 126 At2 where
  kv := atV
  ok p := kit.okI64 p.1 ∧ kit.okI64 p.2
  law := deep_law_laid tryLaid (m := 2) (by omega) atRow (by kernel_rfl) (by kernel_rfl)
  key x h := at_key x h
  inj x y h := by
    simp only [atV, Value.agg.injEq, Array.mk.injEq, atC, List.cons.injEq, Value.int.injEq, true_and, and_true] at h
    exact Prod.ext h.1 h.2
theorem zeroCls (w : World) : (zeroValue 31).run Tryd.prog w = .ok (clsV C4.zero) w := by kernel_rfl
/-! ### nodes by their numbers -/
def nodeAt : Re → Nat → Nat → Re
  | r, base, k => if k = base then r else match r with
    | .cat a b => if k < base + 1 + a.size then nodeAt a (base + 1) k else nodeAt b (base + 1 + a.size) k
    | .alt a b => if k < base + 1 + a.size then nodeAt a (base + 1) k else nodeAt b (base + 1 + a.size) k
    | .star a => nodeAt a (base + 1) k
    | r => r
def Con (N : Nat → Re) (r : Re) (k : Nat) : Prop := ∀ i, k ≤ i → i < k + r.size → N i = nodeAt r k i
theorem nodeAt_self (r : Re) (k : Nat) : nodeAt r k k = r := by cases r <;> simp [nodeAt]
theorem con_self {N : Nat → Re} {r : Re} {k : Nat} (h : Con N r k) : N k = r := by
  have := h k (Nat.le_refl k) (by have := r.size_pos; omega)
  rw [this, nodeAt_self]
theorem con_kid {N : Nat → Re} {r : Re} {k : Nat} (h : Con N r k) {j : Nat} (hj : j < (kidsK r k).length) : Con N (kidsK r k)[j].1 (kidsK r k)[j].2 ∧ (kidsK r k)[j].2 + (kidsK r k)[j].1.size ≤ k + r.size ∧ (kidsK r k)[j].1.size < r.size := by
  cases r with
  | cat a b => match j, hj with
    | 0, _ =>
      refine ⟨fun i h1 h2 => ?_, by simp [kidsK, Re.size]; omega, by simp [kidsK, Re.size]; omega⟩
      simp only [kidsK, List.getElem_cons_zero] at h1 h2 ⊢
      rw [h i (by omega) (by simp [Re.size]; omega), nodeAt, if_neg (by omega)]
      show (if i < k + 1 + a.size then _ else _) = _
      rw [if_pos (by omega)]
    | 1, _ =>
      refine ⟨fun i h1 h2 => ?_, by simp [kidsK, Re.size]; omega, by simp [kidsK, Re.size]; omega⟩
      simp only [kidsK, List.getElem_cons_succ, List.getElem_cons_zero] at h1 h2 ⊢
      rw [h i (by omega) (by simp [Re.size]; omega), nodeAt, if_neg (by omega)]
      show (if i < k + 1 + a.size then _ else _) = _
      rw [if_neg (by omega)]
  | alt a b => match j, hj with
    | 0, _ =>
      refine ⟨fun i h1 h2 => ?_, by simp [kidsK, Re.size]; omega, by simp [kidsK, Re.size]; omega⟩
      simp only [kidsK, List.getElem_cons_zero] at h1 h2 ⊢
      rw [h i (by omega) (by simp [Re.size]; omega), nodeAt, if_neg (by omega)]
      show (if i < k + 1 + a.size then _ else _) = _
      rw [if_pos (by omega)]
    | 1, _ =>
      refine ⟨fun i h1 h2 => ?_, by simp [kidsK, Re.size]; omega, by simp [kidsK, Re.size]; omega⟩
      simp only [kidsK, List.getElem_cons_succ, List.getElem_cons_zero] at h1 h2 ⊢
      rw [h i (by omega) (by simp [Re.size]; omega), nodeAt, if_neg (by omega)]
      show (if i < k + 1 + a.size then _ else _) = _
      rw [if_neg (by omega)]
  | star a => match j, hj with
    | 0, _ =>
      refine ⟨fun i h1 h2 => ?_, by simp [kidsK, Re.size]; omega, by simp [kidsK, Re.size]⟩
      simp only [kidsK, List.getElem_cons_zero] at h1 h2 ⊢
      rw [h i (by omega) (by simp [Re.size]; omega), nodeAt, if_neg (by omega)]
  | none => simp [kidsK] at hj
  | empty => simp [kidsK] at hj
  | byte c => simp [kidsK] at hj
/-! ### what the map holds -/
structure MOk (s : List UInt8) (N : Nat → Re) (m : At2 → Option Value) (n : Nat) : Prop where
  val : ∀ (k f : Nat) v, k < 100 → f ≤ s.length → m ((k : Int), (f : Int)) = some v → ∃ c, v = clsV c ∧ EndC s (N k) f c
  cnt : ∃ D : List Nat, D.Nodup ∧ D.length = n ∧ (∀ x ∈ D, x < 25600) ∧ ∀ (k f : Nat), k < 100 → f < 256 → ((m ((k : Int), (f : Int))).isSome = true ↔ k * 256 + f ∈ D)
theorem mok0 (s : List UInt8) (N : Nat → Re) : MOk s N (fun _ => none) 0 := ⟨fun k f v _ _ h => (by cases h), [], List.nodup_nil, rfl, fun x h => (by cases h), fun k f _ _ => by simp⟩
theorem MOk.le {s : List UInt8} {N : Nat → Re} {m : At2 → Option Value} {n : Nat} (h : MOk s N m n) : n ≤ 25600 := by
  obtain ⟨D, h1, h2, h3, _⟩ := h.cnt
  rw [← h2]
  exact smallL.nodup_bound h1 h3
theorem MOk.set {s : List UInt8} {N : Nat → Re} {m : At2 → Option Value} {n : Nat} (h : MOk s N m n) (hs : s.length ≤ 200) {k f : Nat} (hk : k < 100) (hf : f ≤ s.length) {c : C4} (hc : EndC s (N k) f c) :
    MOk s N (fun y => if y = ((k : Int), (f : Int)) then some (clsV c) else m y) (if (m ((k : Int), (f : Int))).isSome then n else n + 1) := by
  refine ⟨fun k' f' v hk' hf' hv => ?_, ?_⟩
  · by_cases e : ((k' : Int), (f' : Int)) = ((k : Int), (f : Int))
    · rw [if_pos e] at hv
      simp only [Prod.mk.injEq] at e
      obtain rfl : k' = k := by omega
      obtain rfl : f' = f := by omega
      simp only [Option.some.injEq] at hv
      exact ⟨c, hv.symm, hc⟩
    · rw [if_neg e] at hv
      exact h.val k' f' v hk' hf' hv
  · obtain ⟨D, h1, h2, h3, h4⟩ := h.cnt
    by_cases e : (m ((k : Int), (f : Int))).isSome = true
    · rw [if_pos e]
      refine ⟨D, h1, h2, h3, fun k' f' hk' hf' => ?_⟩
      by_cases e2 : ((k' : Int), (f' : Int)) = ((k : Int), (f : Int))
      · rw [if_pos e2]
        simp only [Prod.mk.injEq] at e2
        obtain rfl : k' = k := by omega
        obtain rfl : f' = f := by omega
        simpa using (h4 k' f' hk' hf').1 e
      · rw [if_neg e2]
        exact h4 k' f' hk' hf'
    · rw [if_neg e]
      have hn : k * 256 + f ∉ D := fun hd => e ((h4 k f hk (by omega)).2 hd)
      refine ⟨(k * 256 + f) :: D, List.nodup_cons.2 ⟨hn, h1⟩, by rw [List.length_cons, h2], fun x hx => ?_, fun k' f' hk' hf' => ?_⟩
      · rcases List.mem_cons.1 hx with rfl | hx
        · omega
        · exact h3 x hx
      · by_cases e2 : ((k' : Int), (f' : Int)) = ((k : Int), (f : Int))
        · rw [if_pos e2]
          simp only [Prod.mk.injEq] at e2
          obtain rfl : k' = k := by omega
          obtain rfl : f' = f := by omega
          simp
        · rw [if_neg e2, h4 k' f' hk' hf', List.mem_cons]
          have : ¬ k' * 256 + f' = k * 256 + f := fun h => e2 (by
            have a : k' = k := by omega
            have b : f' = f := by omega
            rw [a, b])
          simp [this]
/-! ### contracts -/
abbrev EIx := C4 × (At2 → Option Value) × Nat
def spO (gs : Nat) (s : List UInt8) (gm : Nat) : Own := blkO gs #[str s, .map (some gm)] 115
def mO (gm : Nat) (x : (At2 → Option Value) × Nat) : Own := mapO atK gm x.1 x.2
def endSp (s : List UInt8) (N : Nat → Re) (gs gm : Nat) (F : Nat → Prop) (w1 : World) (r : Re) (f : Nat) : Spec EIx := ⟨fun x => EndC s r f x.1 ∧ MOk s N x.2.1 x.2.2, fun x => clsV x.1, fun x => [spO gs s gm, mO gm x.2, frozO F w1]⟩
def eachSp (s : List UInt8) (N : Nat → Re) (gs gm : Nat) (F : Nat → Prop) (w1 : World) (r : Re) (X : C4) : Spec EIx := ⟨fun x => EachC s r X x.1 ∧ MOk s N x.2.1 x.2.2, fun x => clsV x.1, fun x => [spO gs s gm, mO gm x.2, frozO F w1]⟩
/-- what ends says at a node -/
def EndsOk (w0 : World) (s : List UInt8) (N : Nat → Re) (gs gm : Nat) (F : Nat → Prop) (w1 : World) (r : Re) (cs : List Value) : Prop :=
  ∀ (f : Nat) (m : At2 → Option Value) (n : Nat) (w : World) (B : Base), f ≤ s.length → MOk s N m n → Old w0 B → Mem B [spO gs s gm, mO gm (m, n), frozO F w1] w →
    Calls Tryd.prog 43 #[.pointer (some ⟨gs, 0, none⟩), .agg cs.toArray, .int .i64 (f : Int)] w (MeetsB (endSp s N gs gm F w1 r f) B)
/-- ends from the first j of some places -/
def EachJ (s : List UInt8) (r : Re) (X : C4) (j : Nat) (c : C4) : Prop := ∀ i, i < 256 → (c.mem i = true ↔ ∃ f, f ∈ (bytesL X).take j ∧ EndP r s f i)
theorem each_0 (s : List UInt8) (r : Re) (X : C4) : EachJ s r X 0 C4.zero := fun i hi => by rw [zero_mem]; simp
theorem each_next {s : List UInt8} {r : Re} {X c c' : C4} {j : Nat} (hj : j < (bytesL X).length) (h : EachJ s r X j c) (h' : EndC s r (bytesL X)[j] c') : EachJ s r X (j + 1) (c.join c') := fun i hi => by
  rw [join_mem, Bool.or_eq_true, h i hi, h' i hi, List.take_succ_eq_append_getElem hj]
  constructor
  · rintro (⟨f, h1, h2⟩ | h2)
    · exact ⟨f, List.mem_append_left _ h1, h2⟩
    · exact ⟨_, List.mem_append_right _ (by simp), h2⟩
  · rintro ⟨f, h1, h2⟩
    rcases List.mem_append.1 h1 with h1 | h1
    · exact .inl ⟨f, h1, h2⟩
    · simp at h1; subst h1; exact .inr h2
theorem each_all {s : List UInt8} {r : Re} {X c : C4} (h : EachJ s r X (bytesL X).length c) : EachC s r X c := fun i hi => by
  rw [h i hi, List.take_length]
  exact ⟨fun ⟨f, h1, h2⟩ => ⟨f, (mem_bytes.1 h1).1, (mem_bytes.1 h1).2, h2⟩, fun ⟨f, h1, h2, h3⟩ => ⟨f, mem_bytes.2 ⟨h1, h2⟩, h3⟩⟩
theorem strL_len (X : C4) : (strL X).length = (bytesL X).length := by unfold strL; simp
set_option maxRecDepth 100000 in
set_option maxHeartbeats 16000000 in
theorem each4_calls (w0 : World) (hT : TabW w0) (s : List UInt8) (hs : s.length ≤ 200) (N : Nat → Re) (gs gm : Nat) (F : Nat → Prop) (w1 : World) (r : Re) (k : Nat) (vk v : Value) (hE : EndsOk w0 s N gs gm F w1 r (numC r k vk v)) (h1k : vk.oneCell' = true) (h1v : v.oneCell' = true) (X : C4) (hX : ∀ i, i < 256 → X.mem i = true → i ≤ s.length) (m : At2 → Option Value) (n : Nat) (w : World) (B : Base) (hmk : MOk s N m n) (ho : Old w0 B) (hm : Mem B [spO gs s gm, mO gm (m, n), frozO F w1] w) :
    Calls Tryd.prog 49 #[.pointer (some ⟨gs, 0, none⟩), clsV X, .agg (numC r k vk v).toArray] w (MeetsB (eachSp s N gs gm F w1 r X) B) := by
  have hl256 : (bytesL X).length ≤ 256 := cnt_le X
  have hTB : ∀ (L : List Own) w', Mem B L w' → TabW w' := fun L w' hm j u hj => ho.cell hm (hT j u hj)
  refine enterB hm (args := [.pointer (some ⟨gs, 0, none⟩), clsV X, .agg (numC r k vk v).toArray]) (n := 27) Tryd.func49 rfl rfl rfl ?_
  clear hm
  refine T_seq (T_region (TL_box rfl rfl rfl fun g4 => TL_box rfl rfl rfl fun g5 => TL_new rfl fun g6 => ?_))
  conv => arg 8; simp only [zA, zB, zC, zD, zE, zF, zG, zH, zI, rowS, ret, id_eq]
  repeat (first
    | refine QV QP ?_ | refine QZ ?_ | refine qcT rfl ?_ | refine qcF rfl ?_ | refine E_blockX ?_ | refine E_blockO rfl ?_ | refine QV QL ?_
    | refine QV QlT ?_ | refine QV QlF ?_ | refine QV QaA ?_)
  refine TL_new rfl fun g7 => ?_
  conv => arg 8; simp only [zA, zB, zC, zD, zE, zF, zG, zH, zI, rowS, ret, id_eq]
  repeat (first
    | refine QV QP ?_ | refine QZ ?_ | refine qcT rfl ?_ | refine qcF rfl ?_ | refine E_blockX ?_ | refine E_blockO rfl ?_
    | refine QV (rr_loadB (i := 3) TyC.ty rfl rfl rfl) ?_ | refine QV QL ?_ | refine QV QlT ?_ | refine QV QlF ?_ | refine QV QaA ?_)
  refine TL_call (he1 EntersC.en rfl rfl) (fun w hm => bytes_calls X w (hTB _ w hm)) rfl rfl rfl ?_
  intro _ _
  conv => arg 8; simp only [zA, zB, zC, zD, zE, zF, zG, zH, zI, rowS, ret, id_eq]
  refine TL_bytes Und.eq Und.eq Und.eq rfl rfl fun g12 cap hcap => ?_
  conv => arg 8; simp only [zA, zB, zC, zD, zE, zF, zG, zH, zI, rowS, ret, id_eq]
  repeat (first
    | refine QV QP ?_ | refine QZ ?_ | refine qcT rfl ?_ | refine qcF rfl ?_ | refine E_blockX ?_ | refine E_blockO rfl ?_ | refine QV QS ?_
    | refine QV QL ?_ | refine QV QlT ?_ | refine QV QlF ?_ | refine QV QaA ?_)
  refine T_pick [0, 1, 2, 4, 5, 6, 7] (by decide) rfl ?_
  refine T_loop (ι := Nat × EIx) (fun (j, c, m, n) => j ≤ (bytesL X).length ∧ EachJ s r X j c ∧ MOk s N m n) (fun (j, _) => [(0, .pointer (some ⟨gs, 0, none⟩)), (5, .pointer (some ⟨g5, 0, none⟩)), (6, .pointer (some ⟨g6, 0, none⟩)), (7, .pointer (some ⟨g7, 0, none⟩)), (12, .slice (some ⟨g12, 0, none⟩) (strL X).length cap), (13, .int .i64 ((bytesL X).length : Int)), (14, .int .i64 (j : Int))])
    (fun (_, c, m, n) => [spO gs s gm, mO gm (m, n), frozO F w1, blkO g5 (numC r k vk v).toArray 119, blkO g6 (clsL C4.zero).toArray 31, blkO g7 (clsL c).toArray 31, wrO g12 ((strL X).map u8v)]) (fun (j, _) => (bytesL X).length - j) (0, C4.zero, m, n) ⟨Nat.zero_le _, each_0 s r X, hmk⟩ ⟨rfl, rfl, rfl, rfl, rfl, by show _ = some (Value.int .i64 _); rw [← strL_len]; rfl, rfl, trivial⟩ rfl ?_
  clear hmk m n
  rintro ⟨j, c, m, n⟩ ⟨hj, hc, hmk⟩
  dsimp only at hj hc hmk ⊢
  by_cases c1 : j < (bytesL X).length
  · have hb := mem_bytes.1 (List.getElem_mem c1)
    have hb256 := hb.1
    have hle := hX _ hb256 hb.2
    have hcell : ((strL X).map u8v)[0 + j]? = some (.int .u8 ((bytesL X)[j] : Int)) := by
      rw [Nat.zero_add]
      have e : (UInt8.ofNat (bytesL X)[j]).toNat = (bytesL X)[j] := by simp; omega
      simp only [strL, List.map_map, List.getElem?_map, List.getElem?_eq_getElem c1, Option.map_some, Function.comp_apply, u8v, e]
    have hnx := fun c' h' => each_next (c' := c') c1 hc h'
    have hjl : j < (strL X).length := by rw [strL_len]; exact c1
    generalize (bytesL X)[j] = b at *
    repeat (first
      | refine QV QP ?_ | refine QZ ?_ | refine qcT rfl ?_ | refine qcF rfl ?_ | refine E_blockX ?_ | refine E_blockO rfl ?_
      | refine QV (rr_idx1 (j := j) Und.eq TyC.ty rfl rfl hjl) ?_ | refine QV (rr_load1 TyC.ty rfl (at_wr (i := 6) rfl hcell)) ?_ | refine QV QL ?_
      | refine QV QlT ?_ | refine QV QlF ?_ | refine QV QaA ?_)
    (repeat refine T_seq ?_)
    refine T_ord ([blkO g5 (numC r k vk v).toArray 119]) (.calm 1 (.calm 2 (.calm 3 (.calm 4 (.two 0 (.one 5 (.calm 6 (.one 7 (.done)))) 5 (.one 0 (.calm 6 (.one 7 (.done))))))))) (sub_pick [3] (by decide) rfl) (by kernel_rfl) (by kernel_rfl) (by intro c a d v w h; cases d <;> exact h) ?_
    repeat (first
      | ((first | refine TW_plain rfl rfl ?_ | refine TW_gmet rfl rfl rfl rfl ?_); first | refine QW QP ?_ | refine QW (rr_loadB (i := 0) TyC.ty rfl rfl rfl) ?_ | refine QW (rr_conv Und.eq Und.eq rfl (wrap_in (by omega) (by omega))) ?_ | refine QW QL ?_ | refine QW QlT ?_ | refine QW QlF ?_ | refine QW QaA ?_)
      | refine TW_done ?_)
    refine TW_two rfl rfl ?_ ?_
    · refine TL_val (rr_loadB (i := 5) TyC.ty rfl rfl rfl) rfl rfl rfl (TW_on (sub_pick [3] (by decide) rfl) ?_)
      refine TW_one rfl (TL_callB [0, 1, 2] [3, 4, 5, 6] (by decide) rfl rfl (he3 EntersC.en rfl rfl rfl rfl) (fun w hm hb => hE b m n w _ hle hmk (ho.on hm (by intro o ho; simp at ho ⊢; rcases ho with h | h | h <;> simp [h])) hb) rfl rfl rfl ?_)
      rintro ⟨c', m', n'⟩ ⟨a1, a2⟩
      conv => arg 8; simp only [zA, zB, zC, zD, zE, zF, zG, zH, zI, rowS, ret, id_eq, endSp]
      refine TW_on (sub_pick [0] (by decide) rfl) ?_
      repeat (first
        | ((first | refine TW_plain rfl rfl ?_ | refine TW_gmet rfl rfl rfl rfl ?_); first | refine QW QP ?_ | refine QW QL ?_ | refine QW QlT ?_ | refine QW QlF ?_ | refine QW QaA ?_)
        | refine TW_done ?_)
      refine TW_call rfl (he2 EntersC.en rfl rfl rfl) (fun w hm => joinE c c' _) rfl rfl rfl ?_
      refine TW_one rfl (TL_storeB (i := 2) (cs' := (clsL (c.join c')).toArray) rfl rfl rfl rfl rfl rfl (TW_on (sub_pick [0] (by decide) rfl) ?_))
      repeat (first
        | ((first | refine TW_plain rfl rfl ?_ | refine TW_gmet rfl rfl rfl rfl ?_); first | refine QW QP ?_ | refine QW QL ?_ | refine QW QlT ?_ | refine QW QlF ?_ | refine QW QaA ?_)
        | refine TW_done ?_)
      repeat (first
        | refine QV QP ?_ | refine QZ ?_ | refine qcT rfl ?_ | refine qcF rfl ?_ | refine E_blockX ?_ | refine E_blockO rfl ?_ | refine QV QL ?_
        | refine QV QlT ?_ | refine QV QlF ?_ | refine QV QaA ?_)
      refine E_pick [4, 5, 6, 0, 1, 2, 3] (by decide) rfl ?_
      exact E_round (j + 1, c.join c', m', n') ⟨by show j + 1 ≤ (bytesL X).length; omega, hnx c' a1, a2⟩ (by show (bytesL X).length - (j + 1) < (bytesL X).length - j; omega) ⟨rfl, rfl, rfl, rfl, rfl, rfl, rfl, trivial⟩ rfl
    · refine TL_callB [0, 1, 2] [3, 4, 5, 6] (by decide) rfl rfl (he3 EntersC.en rfl rfl rfl rfl) (fun w hm hb => hE b m n w _ hle hmk (ho.on hm (by intro o ho; simp at ho ⊢; rcases ho with h | h | h <;> simp [h])) hb) rfl rfl rfl ?_
      rintro ⟨c', m', n'⟩ ⟨a1, a2⟩
      conv => arg 8; simp only [zA, zB, zC, zD, zE, zF, zG, zH, zI, rowS, ret, id_eq, endSp]
      refine TW_on (sub_pick [0] (by decide) rfl) ?_
      refine TW_one rfl (TL_val (rr_loadB (i := 2) TyC.ty rfl rfl rfl) rfl rfl rfl (TW_on (sub_pick [0] (by decide) rfl) ?_))
      repeat (first
        | ((first | refine TW_plain rfl rfl ?_ | refine TW_gmet rfl rfl rfl rfl ?_); first | refine QW QP ?_ | refine QW QL ?_ | refine QW QlT ?_ | refine QW QlF ?_ | refine QW QaA ?_)
        | refine TW_done ?_)
      refine TW_call rfl (he2 EntersC.en rfl rfl rfl) (fun w hm => joinE c c' _) rfl rfl rfl ?_
      refine TW_one rfl (TL_storeB (i := 2) (cs' := (clsL (c.join c')).toArray) rfl rfl rfl rfl rfl rfl (TW_on (sub_pick [0] (by decide) rfl) ?_))
      repeat (first
        | ((first | refine TW_plain rfl rfl ?_ | refine TW_gmet rfl rfl rfl rfl ?_); first | refine QW QP ?_ | refine QW QL ?_ | refine QW QlT ?_ | refine QW QlF ?_ | refine QW QaA ?_)
        | refine TW_done ?_)
      repeat (first
        | refine QV QP ?_ | refine QZ ?_ | refine qcT rfl ?_ | refine qcF rfl ?_ | refine E_blockX ?_ | refine E_blockO rfl ?_ | refine QV QL ?_
        | refine QV QlT ?_ | refine QV QlF ?_ | refine QV QaA ?_)
      refine E_pick [4, 5, 6, 0, 1, 2, 3] (by decide) rfl ?_
      exact E_round (j + 1, c.join c', m', n') ⟨by show j + 1 ≤ (bytesL X).length; omega, hnx c' a1, a2⟩ (by show (bytesL X).length - (j + 1) < (bytesL X).length - j; omega) ⟨rfl, rfl, rfl, rfl, rfl, rfl, rfl, trivial⟩ rfl
  · obtain rfl : j = (bytesL X).length := by omega
    repeat (first
      | refine QV QP ?_ | refine QZ ?_ | refine qcT rfl ?_ | refine qcF rfl ?_ | refine E_blockX ?_ | refine E_blockO rfl ?_
      | refine QV (rr_loadB (i := 5) TyC.ty rfl rfl rfl) ?_ | refine QV QL ?_ | refine QV QlT ?_ | refine QV QlF ?_ | refine QV QaA ?_)
    refine TL_storeB (i := 4) (cs' := (clsL c).toArray) rfl rfl rfl rfl rfl rfl ?_
    conv => arg 8; simp only [zA, zB, zC, zD, zE, zF, zG, zH, zI, rowS, ret, id_eq]
    repeat (first
      | refine QV QP ?_ | refine QZ ?_ | refine qcT rfl ?_ | refine qcF rfl ?_ | refine E_blockX ?_ | refine E_blockO rfl ?_ | refine QV QL ?_
      | refine QV QlT ?_ | refine QV QlF ?_ | refine QV QaA ?_)
    refine E_retc1 (i := 4) rfl rfl rfl rfl fun w hm => ?_
    exact hm.meetsB (S := eachSp s N gs gm F w1 r X) (c, m, n) ⟨each_all hc, hmk⟩ [0, 1, 2] (by decide) rfl
end Go.Proofs.YtkcnoompimohnaaDoor.eng

/- RexE -/
namespace Go.Proofs.YtkcnoompimohnaaDoor.eng
open Go.RowKit kit mix classL rexL classSets
theorem build_at (a b : Int) (w : World) : (Instr.build 126 #[(0, .int .i64 a), (1, .int .i64 b)]).run Tryd.prog w = .ok (atV (a, b)) w := by kernel_rfl
/-- the kids of a numbered node -/
theorem nkid_at {F : Nat → Prop} {w : World} {v : Value} {r : Re} {k : Nat} (h : SlF numS F w v (kidsK r k)) (h0 : 0 < (kidsK r k).length) :
    ∃ b off cap, v = .slice (some ⟨b, off, none⟩) (kidsK r k).length cap ∧ F b ∧ ∀ j (hj : j < (kidsK r k).length), ∃ vk v', Rd w b (off + j * 8) (numC (kidsK r k)[j].1 (kidsK r k)[j].2 vk v') ∧ vk.oneCell' = true ∧ v'.oneCell' = true ∧ NumIs F w (numC (kidsK r k)[j].1 (kidsK r k)[j].2 vk v') (kidsK r k)[j] := by
  obtain ⟨base, cap, rfl, h1, h2, h3⟩ := h
  obtain ⟨b, off, rfl, hF, hr⟩ := h3 h0
  refine ⟨b, off, cap, rfl, hF, fun j hj => ?_⟩
  obtain ⟨cs, h4, h5⟩ := hr j hj
  have h4 : NumIs F w cs (kidsK r k)[j] := h4
  generalize (kidsK r k)[j] = e at *
  obtain ⟨a, q⟩ := e
  have h4' := h4
  obtain ⟨vk, v', rfl, h6, h7⟩ := num_iff.1 h4
  obtain ⟨b2, c2, rfl, _⟩ := h7
  exact ⟨vk, _, h5, h6, rfl, h4'⟩
theorem num_cls {r : Re} {k : Nat} {vk u : Value} {j : Nat} {v : Value} (h : (clsL r.cls)[j]? = some v) : (numC r k vk u).toArray[0 + 0 + 1 + j]? = some v := by
  have hj : j < (clsL r.cls).length := (List.getElem?_eq_some_iff.1 h).1
  rw [List.getElem?_toArray, show 0 + 0 + 1 + j = j + 1 by omega]
  show (clsL r.cls ++ [vk, .int .i64 (k : Int), u])[j]? = _
  rw [List.getElem?_append_left hj]; exact h
theorem endC_zero {s : List UInt8} {r : Re} {f : Nat} (h : ∀ j, ¬ EndP r s f j) : EndC s r f C4.zero := fun j _ => by rw [zero_mem]; simp [h j]
theorem endC_range {s : List UInt8} {r : Re} {f q : Nat} (h : ∀ j, EndP r s f j ↔ j = q) : EndC s r f (rangeF q q) := fun j hj => by
  rw [range_mem _ _ _ hj, h j, decide_eq_true_eq]; omega
theorem endC_alt {s : List UInt8} {a b : Re} {f : Nat} {x y : C4} (h : EndC s a f x) (h' : EndC s b f y) : EndC s (.alt a b) f (x.join y) := fun j hj => by
  rw [join_mem, Bool.or_eq_true, h j hj, h' j hj, end_alt]
theorem endC_le {s : List UInt8} {a : Re} {f : Nat} {x : C4} (h : EndC s a f x) (i : Nat) (hi : i < 256) (hx : x.mem i = true) : i ≤ s.length := ((h i hi).1 hx).2.1
theorem endC_cat {s : List UInt8} (hs : s.length ≤ 200) {a b : Re} {f : Nat} {x y : C4} (h : EndC s a f x) (h' : EachC s b x y) : EndC s (.cat a b) f y := fun j hj => by
  rw [h' j hj, end_cat]
  constructor
  · rintro ⟨i, h1, h2, h3⟩
    exact ⟨i, (h i h1).1 h2, h3⟩
  · rintro ⟨i, h2, h3⟩
    have : i < 256 := by have := h2.2.1; omega
    exact ⟨i, this, (h i this).2 h2, h3⟩
/-- on a star's way -/
structure StI (s : List UInt8) (a : Re) (f : Nat) (out now : C4) : Prop where
  sound : ∀ j, j < 256 → out.mem j = true → Rch (EndP a s) f j
  sub : ∀ j, j < 256 → now.mem j = true → out.mem j = true
  cl : ∀ i, i < 256 → out.mem i = true → now.mem i = false → ∀ j, EndP a s i j → out.mem j = true
  st : out.mem f = true
theorem sti0 {s : List UInt8} (hs : s.length ≤ 200) {a : Re} {f : Nat} (hf : f ≤ s.length) : StI s a f (rangeF f f) (rangeF f f) := by
  have hm : ∀ j, j < 256 → ((rangeF f f).mem j = true ↔ j = f) := fun j hj => by rw [range_mem _ _ _ hj, decide_eq_true_eq]; omega
  refine ⟨fun j hj h => ?_, fun j hj h => h, fun i hi h h' => ?_, (hm f (by omega)).2 rfl⟩
  · rw [(hm j hj).1 h]; exact .refl
  · rw [h] at h'; cases h'
theorem StI.le {s : List UInt8} {a : Re} {f : Nat} {out now : C4} (h : StI s a f out now) (hf : f ≤ s.length) (j : Nat) (hj : j < 256) (hn : now.mem j = true) : j ≤ s.length :=
  ((end_star hf).2 (h.sound j hj (h.sub j hj hn))).2.1
theorem sti_next {s : List UInt8} (hs : s.length ≤ 200) {a : Re} {f : Nat} {out now e : C4} (h : StI s a f out now) (he : EachC s a now e) : StI s a f (out.join (e.meet out.not)) (e.meet out.not) := by
  have hm : ∀ j, (e.meet out.not).mem j = (e.mem j && !out.mem j) := fun j => by rw [meet_mem, not_mem]
  refine ⟨fun j hj hq => ?_, fun j hj hq => ?_, fun i hi hq hq' j hj => ?_, ?_⟩
  · rw [join_mem, Bool.or_eq_true] at hq
    rcases hq with hq | hq
    · exact h.sound j hj hq
    · rw [hm, Bool.and_eq_true] at hq
      obtain ⟨i, h1, h2, h3⟩ := (he j hj).1 hq.1
      exact .step (h.sound i h1 (h.sub i h1 h2)) h3
  · rw [join_mem, hq, Bool.or_true]
  · have hj256 : j < 256 := by have := hj.2.1; omega
    rw [join_mem, hm, Bool.or_eq_true] at hq
    rw [join_mem, hm]
    rw [hm] at hq'
    have hi1 : out.mem i = true := by
      rcases hq with hq | hq
      · exact hq
      · rw [hq] at hq'; cases hq'
    cases c : now.mem i with
    | false => rw [h.cl i hi hi1 c j hj]; rfl
    | true =>
      have := (he j hj256).2 ⟨i, hi, c, hj⟩
      rw [this]
      cases out.mem j <;> rfl
  · rw [join_mem, h.st]; rfl
theorem sti_end {s : List UInt8} (hs : s.length ≤ 200) {a : Re} {f : Nat} {out : C4} (hf : f ≤ s.length) (h : StI s a f out C4.zero) : EndC s (.star a) f out := fun j hj => by
  rw [end_star hf]
  refine ⟨h.sound j hj, fun hr => ?_⟩
  have : ∀ j, Rch (EndP a s) f j → out.mem j = true := fun j hr => by
    induction hr with
    | refl => exact h.st
    | step _ h2 ih =>
      rename_i i j h1
      have : i < 256 := by have := h2.1; have := h2.2.1; omega
      exact h.cl i this ih (zero_mem i) j h2
  exact this j hr
def muS (out now : C4) : Nat := 2 * (256 - cnt out) + if now = C4.zero then 0 else 1
theorem cnt_zero : cnt C4.zero = 0 := by
  unfold cnt
  rw [List.length_eq_zero_iff, bytesL, List.filter_eq_nil_iff]
  intro j _
  rw [zero_mem]; decide
theorem cnt_pos {x : C4} (h : x ≠ C4.zero) : 0 < cnt x := by
  refine Nat.pos_of_ne_zero fun h0 => h ?_
  have : bytesL x = [] := List.length_eq_zero_iff.1 h0
  refine ext_mem fun n hn => ?_
  rw [zero_mem]
  cases e : x.mem n with
  | false => rfl
  | true => have := mem_bytes.2 ⟨hn, e⟩; rw [‹bytesL x = []›] at this; cases this
theorem mu_next {out now e : C4} (h : now ≠ C4.zero) : muS (out.join (e.meet out.not)) (e.meet out.not) < muS out now := by
  unfold muS
  rw [if_neg h]
  have h1 := cnt_or_and out (e.meet out.not)
  have h2 : out.meet (e.meet out.not) = C4.zero := ext_mem fun n _ => by
    rw [meet_mem, meet_mem, not_mem, zero_mem]
    cases out.mem n <;> simp
  rw [h2, cnt_zero] at h1
  have h3 := cnt_le (out.join (e.meet out.not))
  by_cases c : e.meet out.not = C4.zero
  · rw [if_pos c]
    rw [c, cnt_zero] at h1
    rw [c]
    omega
  · rw [if_neg c]
    have := cnt_pos c
    omega
set_option maxRecDepth 100000 in
set_option maxHeartbeats 32000000 in
theorem ends_calls (w0 : World) (hT : TabW w0) (s : List UInt8) (hs : s.length ≤ 200) (N : Nat → Re) (gs gm : Nat) (F : Nat → Prop) (w1 : World) : ∀ (M : Nat) (r : Re), r.size ≤ M → ∀ (k : Nat) (cs : List Value), NumIs F w1 cs (r, k) → Con N r k → k + r.size ≤ 100 → EndsOk w0 s N gs gm F w1 r cs
  | 0, r, h, _, _, _, _, _ => by have := r.size_pos; omega
  | M + 1, r, hM, k, cs, hnum, hcon, hk100 => by
    intro f m n w B hf hmk ho hm
    have IH := ends_calls w0 hT s hs N gs gm F w1 M
    obtain ⟨vk, v, rfl, h1k, hks⟩ := num_iff.1 hnum
    have hNk := con_self hcon
    have hpos := r.size_pos
    have h1v : v.oneCell' = true := by obtain ⟨b, c, rfl, _⟩ := hks; rfl
    have hkey : kit.okI64 (k : Int) ∧ kit.okI64 (f : Int) := ⟨⟨by omega, by omega⟩, by omega, by omega⟩
    have hba := build_at k f
    have hzc := zeroCls
    refine enterB hm (args := [.pointer (some ⟨gs, 0, none⟩), .agg (numC r k vk v).toArray, .int .i64 (f : Int)]) (n := 125) Tryd.func43 rfl rfl rfl ?_
    clear hm
    refine T_seq (T_region (TL_box rfl rfl rfl fun g4 => TL_new rfl fun g6 => ?_))
    conv => arg 8; simp only [zA, zB, zC, zD, zE, zF, zG, zH, zI, rowS, ret, id_eq]
    repeat (first
      | refine QV QP ?_ | refine QZ ?_ | refine qcT rfl ?_ | refine qcF rfl ?_ | refine E_blockX ?_ | refine E_blockO rfl ?_
      | refine qs rfl rfl rfl rfl rfl rfl ?_
      | ((try refine qg rfl rfl rfl ?_); first | refine QV QP ?_ | refine QV (rr_load1 TyC.ty rfl (at_blk (i := 3) rfl rfl)) ?_ | refine QV (rr_build rfl hba) ?_ | refine QV QS ?_ | refine QV QA ?_ | refine QV (rr_nilc rfl) ?_ | refine QV QlT ?_ | refine QV QlF ?_ | refine QV QeT ?_ | refine QV QeF ?_ | refine QV QaA ?_))
    refine TL_new rfl fun g7 => ?_
    conv => arg 8; simp only [zA, zB, zC, zD, zE, zF, zG, zH, zI, rowS, ret, id_eq]
    refine TL_storeB (i := 5) (cs' := (atC (k, f)).toArray) rfl rfl rfl rfl rfl rfl ?_
    conv => arg 8; simp only [zA, zB, zC, zD, zE, zF, zG, zH, zI, rowS, ret, id_eq]
    repeat (first
      | refine QV QP ?_ | refine QZ ?_ | refine qcT rfl ?_ | refine qcF rfl ?_ | refine E_blockX ?_ | refine E_blockO rfl ?_
      | refine qs rfl rfl rfl rfl rfl rfl ?_
      | ((try refine qg rfl rfl rfl ?_); first | refine QV QP ?_ | refine QV QS ?_ | refine QV QA ?_ | refine QV (rr_nilc rfl) ?_ | refine QV QlT ?_ | refine QV QlF ?_ | refine QV QeT ?_ | refine QV QeF ?_ | refine QV QaA ?_))
    unfold spO mO
    cases e : m ((k : Int), (f : Int)) with
    | some vc =>
      obtain ⟨c, rfl, hc⟩ := hmk.val k f vc (by omega) hf e
      rw [hNk] at hc
      (repeat refine T_seq ?_)
      refine T_ord ([blkO gs #[str s, .map (some gm)] 115, mapO atK gm m n, blkO g7 (atC (k, f)).toArray 126]) (.calm 0 (.calm 1 (.calm 2 (.calm 3 (.calm 4 (.calm 5 (.calm 6 (.calm 7 (.calm 8 (.one 9 (.one 10 (.calm 11 (.done))))))))))))) (sub_pick [0, 1, 5] (by decide) rfl) (by kernel_rfl) (by kernel_rfl) (by intro c a d v w h; cases d <;> exact h) ?_
      repeat (first
        | ((first | refine TW_plain rfl rfl ?_ | refine TW_gmet rfl rfl rfl rfl ?_); first | refine QW QP ?_ | refine QW (rr_nilc rfl) ?_ | refine QW (rr_load1 TyC.ty rfl (at_blk (i := 0) rfl rfl)) ?_ | refine QW (rr_loadB (i := 2) TyC.ty rfl rfl rfl) ?_ | refine QW (rr_lookOkS atK (x := (k, f)) Und.eq hzc (i := 1) rfl rfl rfl hkey e) ?_ | refine QW QS ?_ | refine QW QA ?_ | refine QW (rr_nilc rfl) ?_ | refine QW QlT ?_ | refine QW QlF ?_ | refine QW QeT ?_ | refine QW QeF ?_ | refine QW QaA ?_)
        | refine TW_skip rfl rfl rfl rfl rfl rfl rfl ?_ | refine TW_done ?_)
      refine TW_one rfl (TL_new rfl fun g8 => TW_on (sub_pick [0, 1, 5] (by decide) rfl) ?_)
      refine TW_one rfl (TL_storeB (i := 6) (cs' := (clsL c).toArray) rfl rfl rfl rfl rfl rfl (TW_on (sub_pick [0, 1, 5] (by decide) rfl) ?_))
      repeat (first
        | ((first | refine TW_plain rfl rfl ?_ | refine TW_gmet rfl rfl rfl rfl ?_); first | refine QW QP ?_ | refine QW QS ?_ | refine QW QA ?_ | refine QW (rr_nilc rfl) ?_ | refine QW QlT ?_ | refine QW QlF ?_ | refine QW QeT ?_ | refine QW QeF ?_ | refine QW QaA ?_)
        | refine TW_skip rfl rfl rfl rfl rfl rfl rfl ?_ | refine TW_done ?_)
      repeat (first
        | refine QV QP ?_ | refine QZ ?_ | refine qcT rfl ?_ | refine qcF rfl ?_ | refine E_blockX ?_ | refine E_blockO rfl ?_
        | refine qs rfl rfl rfl rfl rfl rfl ?_
        | ((try refine qg rfl rfl rfl ?_); first | refine QV QP ?_ | refine QV (rr_loadB (i := 6) TyC.ty rfl rfl rfl) ?_ | refine QV QS ?_ | refine QV QA ?_ | refine QV (rr_nilc rfl) ?_ | refine QV QlT ?_ | refine QV QlF ?_ | refine QV QeT ?_ | refine QV QeF ?_ | refine QV QaA ?_))
      refine TL_storeB (i := 4) (cs' := (clsL c).toArray) rfl rfl rfl rfl rfl rfl ?_
      conv => arg 8; simp only [zA, zB, zC, zD, zE, zF, zG, zH, zI, rowS, ret, id_eq]
      repeat (first
        | refine QV QP ?_ | refine QZ ?_ | refine qcT rfl ?_ | refine qcF rfl ?_ | refine E_blockX ?_ | refine E_blockO rfl ?_
        | refine qs rfl rfl rfl rfl rfl rfl ?_
        | ((try refine qg rfl rfl rfl ?_); first | refine QV QP ?_ | refine QV QS ?_ | refine QV QA ?_ | refine QV (rr_nilc rfl) ?_ | refine QV QlT ?_ | refine QV QlF ?_ | refine QV QeT ?_ | refine QV QeF ?_ | refine QV QaA ?_))
      refine E_retc1 (i := 4) rfl rfl rfl rfl fun w hm => ?_
      exact hm.meetsB (S := endSp s N gs gm F w1 r f) (c, m, n) ⟨hc, hmk⟩ [0, 1, 2] (by decide) rfl
    | none =>
      (repeat refine T_seq ?_)
      refine T_ord ([blkO gs #[str s, .map (some gm)] 115, mapO atK gm m n, blkO g7 (atC (k, f)).toArray 126]) (.calm 0 (.calm 1 (.calm 2 (.calm 3 (.calm 4 (.calm 5 (.calm 6 (.calm 7 (.calm 8 (.one 9 (.one 10 (.calm 11 (.done))))))))))))) (sub_pick [0, 1, 5] (by decide) rfl) (by kernel_rfl) (by kernel_rfl) (by intro c a d v w h; cases d <;> exact h) ?_
      repeat (first
        | ((first | refine TW_plain rfl rfl ?_ | refine TW_gmet rfl rfl rfl rfl ?_); first | refine QW QP ?_ | refine QW (rr_nilc rfl) ?_ | refine QW (rr_load1 TyC.ty rfl (at_blk (i := 0) rfl rfl)) ?_ | refine QW (rr_loadB (i := 2) TyC.ty rfl rfl rfl) ?_ | refine QW (rr_lookOkN atK (x := (k, f)) Und.eq hzc (i := 1) rfl rfl rfl hkey e) ?_ | refine QW QS ?_ | refine QW QA ?_ | refine QW (rr_nilc rfl) ?_ | refine QW QlT ?_ | refine QW QlF ?_ | refine QW QeT ?_ | refine QW QeF ?_ | refine QW QaA ?_)
        | refine TW_skip rfl rfl rfl rfl rfl rfl rfl ?_ | refine TW_done ?_)
      refine TW_one rfl (TL_new rfl fun g8 => TW_on (sub_pick [0, 1, 5] (by decide) rfl) ?_)
      refine TW_one rfl (TL_storeB (i := 6) (cs' := (clsL C4.zero).toArray) rfl rfl rfl rfl rfl rfl (TW_on (sub_pick [0, 1, 5] (by decide) rfl) ?_))
      repeat (first
        | ((first | refine TW_plain rfl rfl ?_ | refine TW_gmet rfl rfl rfl rfl ?_); first | refine QW QP ?_ | refine QW QS ?_ | refine QW QA ?_ | refine QW (rr_nilc rfl) ?_ | refine QW QlT ?_ | refine QW QlF ?_ | refine QW QeT ?_ | refine QW QeF ?_ | refine QW QaA ?_)
        | refine TW_skip rfl rfl rfl rfl rfl rfl rfl ?_ | refine TW_done ?_)
      repeat (first
        | refine QV QP ?_ | refine QZ ?_ | refine qcT rfl ?_ | refine qcF rfl ?_ | refine E_blockX ?_ | refine E_blockO rfl ?_
        | refine qs rfl rfl rfl rfl rfl rfl ?_
        | ((try refine qg rfl rfl rfl ?_); first | refine QV QP ?_ | refine QV QS ?_ | refine QV QA ?_ | refine QV (rr_nilc rfl) ?_ | refine QV QlT ?_ | refine QV QlF ?_ | refine QV QeT ?_ | refine QV QeF ?_ | refine QV QaA ?_))
      refine TL_new rfl fun g10 => ?_
      conv => arg 8; simp only [zA, zB, zC, zD, zE, zF, zG, zH, zI, rowS, ret, id_eq]
      repeat (first
        | refine QV QP ?_ | refine TL_nil ?_ | refine E_then ?_ | refine qs rfl rfl rfl rfl rfl rfl ?_
        | ((try refine qg rfl rfl rfl ?_); first | refine QV QP ?_ | refine QV QS ?_ | refine QV QA ?_ | refine QV (rr_nilc rfl) ?_ | refine QV QlT ?_ | refine QV QlF ?_ | refine QV QeT ?_ | refine QV QeF ?_ | refine QV QaA ?_))
      (repeat refine T_seq ?_)
      refine T_region ?_
      repeat (first
        | refine QV QP ?_ | refine TL_nil ?_ | refine E_then ?_ | refine qs rfl rfl rfl rfl rfl rfl ?_
        | ((try refine qg rfl rfl rfl ?_); first | refine QV QP ?_ | refine QV (rr_load1 (v := .int .i64 r.kind) TyC.ty rfl (at_blk (i := 3) rfl rfl)) ?_ | refine QV QS ?_ | refine QV QA ?_ | refine QV (rr_nilc rfl) ?_ | refine QV QlT ?_ | refine QV QlF ?_ | refine QV QeT ?_ | refine QV QeF ?_ | refine QV QaA ?_))
      (repeat refine T_seq ?_)
      refine T_midq (ι := EIx) (fun x => EndC s r f x.1 ∧ MOk s N x.2.1 x.2.2) (fun _ => [(0, .pointer (some ⟨gs, 0, none⟩)), (6, .pointer (some ⟨g6, 0, none⟩)), (7, .pointer (some ⟨g7, 0, none⟩)), (10, .pointer (some ⟨g10, 0, none⟩))])
        (fun x => [blkO gs #[str s, .map (some gm)] 115, mapO atK gm x.2.1 x.2.2, frozO F w1, blkO g6 (clsL C4.zero).toArray 31, blkO g7 (atC (k, f)).toArray 126, blkO g10 (clsL x.1).toArray 31]) ?_ ?_
      · cases r with
        | none =>
          conv => arg 6; simp only [Re.kind]
          repeat (first
            | refine QV QP ?_ | refine QZ ?_ | refine qcT rfl ?_ | refine qcF rfl ?_ | refine E_blockX ?_ | refine E_blockO rfl ?_
            | refine qs rfl rfl rfl rfl rfl rfl ?_
            | ((try refine qg rfl rfl rfl ?_); first | refine QV QP ?_ | refine QV QS ?_ | refine QV QA ?_ | refine QV (rr_nilc rfl) ?_ | refine QV QlT ?_ | refine QV QlF ?_ | refine QV QeT ?_ | refine QV QeF ?_ | refine QV QaA ?_))
          refine E_pick [0, 1, 2, 4, 5, 7] (by decide) rfl ?_
          exact E_mid (C4.zero, m, n) ⟨endC_zero fun j h => h.2.2, hmk⟩ (by repeat' (first | exact True.intro | refine And.intro rfl ?_)) rfl
        | empty =>
          conv => arg 6; simp only [Re.kind]
          have hrg := fun w => rangeE f f hkey.2 hkey.2 w
          repeat (first
            | refine QV QP ?_ | refine QZ ?_ | refine qcT rfl ?_ | refine qcF rfl ?_ | refine E_blockX ?_ | refine E_blockO rfl ?_
            | refine qs rfl rfl rfl rfl rfl rfl ?_
            | ((try refine qg rfl rfl rfl ?_); first | refine QV QP ?_ | refine QV QS ?_ | refine QV QA ?_ | refine QV (rr_nilc rfl) ?_ | refine QV QlT ?_ | refine QV QlF ?_ | refine QV QeT ?_ | refine QV QeF ?_ | refine QV QaA ?_))
          refine TL_call (he2 EntersC.en rfl rfl rfl) (fun w hm => hrg _) rfl rfl rfl ?_
          intro _ _
          conv => arg 8; simp only [zA, zB, zC, zD, zE, zF, zG, zH, zI, rowS, ret, id_eq]
          refine TL_storeB (i := 7) (cs' := (clsL (rangeF f f)).toArray) rfl rfl rfl rfl rfl rfl ?_
          conv => arg 8; simp only [zA, zB, zC, zD, zE, zF, zG, zH, zI, rowS, ret, id_eq]
          repeat (first
            | refine QV QP ?_ | refine QZ ?_ | refine qcT rfl ?_ | refine qcF rfl ?_ | refine E_blockX ?_ | refine E_blockO rfl ?_
            | refine qs rfl rfl rfl rfl rfl rfl ?_
            | ((try refine qg rfl rfl rfl ?_); first | refine QV QP ?_ | refine QV QS ?_ | refine QV QA ?_ | refine QV (rr_nilc rfl) ?_ | refine QV QlT ?_ | refine QV QlF ?_ | refine QV QeT ?_ | refine QV QeF ?_ | refine QV QaA ?_))
          refine E_pick [0, 1, 2, 4, 5, 7] (by decide) rfl ?_
          exact E_mid (rangeF f f, m, n) ⟨endC_range fun j => end_empty hf, hmk⟩ (by repeat' (first | exact True.intro | refine And.intro rfl ?_)) rfl
        | byte c =>
          conv => arg 6; simp only [Re.kind]
          by_cases c1 : f < s.length
          · have hrg := fun w => rangeE ((f + 1 : Nat) : Int) ((f + 1 : Nat) : Int) ⟨by omega, by omega⟩ ⟨by omega, by omega⟩ w
            have hb : s[((f : Int)).toNat]? = some s[f] := by rw [Int.toNat_natCast]; exact List.getElem?_eq_getElem c1
            have hh := fun w => has_calls c (s[f]).toNat (s[f]).toNat_lt w
            have hend : ∀ j, EndP (.byte c) s f j ↔ j = f + 1 ∧ c.mem (s[f]).toNat = true := fun j => by rw [end_byte]; exact ⟨fun ⟨_, h⟩ => h, fun h => ⟨c1, h⟩⟩
            generalize s[f] = b at *
            generalize hD : c.mem b.toNat = D at *
            repeat (first
              | refine QV QP ?_ | refine QZ ?_ | refine qcT rfl ?_ | refine qcF rfl ?_ | refine E_blockX ?_ | refine E_blockO rfl ?_
              | refine qs rfl rfl rfl rfl rfl rfl ?_
              | ((try refine qg rfl rfl rfl ?_); first | refine QV QP ?_ | refine QV QS ?_ | refine QV QA ?_ | refine QV (rr_nilc rfl) ?_ | refine QV QlT ?_ | refine QV QlF ?_ | refine QV QeT ?_ | refine QV QeF ?_ | refine QV QaA ?_))
            (repeat refine T_seq ?_)
            refine T_ord ([blkO gs #[str s, .map (some gm)] 115, blkO g4 (numC (.byte c) k vk v).toArray 119]) (.calm 0 (.calm 1 (.calm 2 (.calm 3 (.calm 4 (.calm 5 (.calm 6 (.calm 7 (.calm 8 (.calm 9 (.calm 10 (.calm 11 (.calm 12 (.calm 13 (.calm 14 (.calm 15 (.calm 16 (.calm 17 (.calm 18 (.done)))))))))))))))))))) (sub_pick [0, 3] (by decide) rfl) (by kernel_rfl) (by kernel_rfl) (by intro c a d v w h; cases d <;> exact h) ?_
            repeat (first
              | ((first | refine TW_plain rfl rfl ?_ | refine TW_gmet rfl rfl rfl rfl ?_); first | refine QW QP ?_ | refine QW (rr_nilc rfl) ?_ | refine QW (rr_load1 TyC.ty rfl (at_blk (i := 0) rfl rfl)) ?_ | refine QW QS ?_ | refine QW (rr_loadN (cs := clsL c) TyC.ty rfl rfl (fun j v hj => at_blk (i := 1) rfl (num_cls (r := .byte c) hj))) ?_ | refine QW QS ?_ | refine QW QA ?_ | refine QW (rr_nilc rfl) ?_ | refine QW QlT ?_ | refine QW QlF ?_ | refine QW QeT ?_ | refine QW QeF ?_ | refine QW QaA ?_ | refine QW (rr_stridx Und.eq rfl rfl (by omega) hb) ?_)
              | refine TW_skip rfl rfl rfl rfl rfl rfl rfl ?_ | refine TW_done ?_)
            refine TW_gcall rfl (he2 EntersC.en rfl rfl rfl) (fun w hm => hh _) rfl rfl rfl rfl rfl ?_
            repeat (first
              | ((first | refine TW_plain rfl rfl ?_ | refine TW_gmet rfl rfl rfl rfl ?_); first | refine QW QP ?_ | refine QW QS ?_ | refine QW QA ?_ | refine QW (rr_nilc rfl) ?_ | refine QW QlT ?_ | refine QW QlF ?_ | refine QW QeT ?_ | refine QW QeF ?_ | refine QW QaA ?_)
              | refine TW_skip rfl rfl rfl rfl rfl rfl rfl ?_ | refine TW_done ?_)
            cases D with
            | true =>
              repeat (first
                | refine QV QP ?_ | refine QZ ?_ | refine qcT rfl ?_ | refine qcF rfl ?_ | refine E_blockX ?_ | refine E_blockO rfl ?_
                | refine qs rfl rfl rfl rfl rfl rfl ?_
                | ((try refine qg rfl rfl rfl ?_); first | refine QV QP ?_ | refine QV (rr_add64 (r := ((f + 1 : Nat) : Int)) rfl rfl (by omega) (by omega) (by omega)) ?_ | refine QV QS ?_ | refine QV QA ?_ | refine QV (rr_nilc rfl) ?_ | refine QV QlT ?_ | refine QV QlF ?_ | refine QV QeT ?_ | refine QV QeF ?_ | refine QV QaA ?_))
              refine TL_call (he2 EntersC.en rfl rfl rfl) (fun w hm => hrg _) rfl rfl rfl ?_
              intro _ _
              conv => arg 8; simp only [zA, zB, zC, zD, zE, zF, zG, zH, zI, rowS, ret, id_eq]
              refine TL_storeB (i := 7) (cs' := (clsL (rangeF ((f + 1 : Nat) : Int) ((f + 1 : Nat) : Int))).toArray) rfl rfl rfl rfl rfl rfl ?_
              conv => arg 8; simp only [zA, zB, zC, zD, zE, zF, zG, zH, zI, rowS, ret, id_eq]
              repeat (first
                | refine QV QP ?_ | refine QZ ?_ | refine qcT rfl ?_ | refine qcF rfl ?_ | refine E_blockX ?_ | refine E_blockO rfl ?_
                | refine qs rfl rfl rfl rfl rfl rfl ?_
                | ((try refine qg rfl rfl rfl ?_); first | refine QV QP ?_ | refine QV QS ?_ | refine QV QA ?_ | refine QV (rr_nilc rfl) ?_ | refine QV QlT ?_ | refine QV QlF ?_ | refine QV QeT ?_ | refine QV QeF ?_ | refine QV QaA ?_))
              refine E_pick [0, 1, 2, 4, 5, 7] (by decide) rfl ?_
              exact E_mid (rangeF ((f + 1 : Nat) : Int) ((f + 1 : Nat) : Int), m, n) ⟨endC_range fun j => by rw [hend]; simp, hmk⟩ (by repeat' (first | exact True.intro | refine And.intro rfl ?_)) rfl
            | false =>
              repeat (first
                | refine QV QP ?_ | refine QZ ?_ | refine qcT rfl ?_ | refine qcF rfl ?_ | refine E_blockX ?_ | refine E_blockO rfl ?_
                | refine qs rfl rfl rfl rfl rfl rfl ?_
                | ((try refine qg rfl rfl rfl ?_); first | refine QV QP ?_ | refine QV QS ?_ | refine QV QA ?_ | refine QV (rr_nilc rfl) ?_ | refine QV QlT ?_ | refine QV QlF ?_ | refine QV QeT ?_ | refine QV QeF ?_ | refine QV QaA ?_))
              refine E_pick [0, 1, 2, 4, 5, 7] (by decide) rfl ?_
              exact E_mid (C4.zero, m, n) ⟨endC_zero fun j h => by have := (hend j).1 h; simp at this, hmk⟩ (by repeat' (first | exact True.intro | refine And.intro rfl ?_)) rfl
          · have hend : ∀ j, ¬ EndP (.byte c) s f j := fun j h => by rw [end_byte] at h; exact c1 h.1
            repeat (first
              | refine QV QP ?_ | refine QZ ?_ | refine qcT rfl ?_ | refine qcF rfl ?_ | refine E_blockX ?_ | refine E_blockO rfl ?_
              | refine qs rfl rfl rfl rfl rfl rfl ?_
              | ((try refine qg rfl rfl rfl ?_); first | refine QV QP ?_ | refine QV QS ?_ | refine QV QA ?_ | refine QV (rr_nilc rfl) ?_ | refine QV QlT ?_ | refine QV QlF ?_ | refine QV QeT ?_ | refine QV QeF ?_ | refine QV QaA ?_))
            (repeat refine T_seq ?_)
            refine T_ord ([blkO gs #[str s, .map (some gm)] 115, blkO g4 (numC (.byte c) k vk v).toArray 119]) (.calm 0 (.calm 1 (.calm 2 (.calm 3 (.calm 4 (.calm 5 (.calm 6 (.calm 7 (.calm 8 (.calm 9 (.calm 10 (.calm 11 (.calm 12 (.calm 13 (.calm 14 (.calm 15 (.calm 16 (.calm 17 (.calm 18 (.done)))))))))))))))))))) (sub_pick [0, 3] (by decide) rfl) (by kernel_rfl) (by kernel_rfl) (by intro c a d v w h; cases d <;> exact h) ?_
            repeat (first
              | ((first | refine TW_plain rfl rfl ?_ | refine TW_gmet rfl rfl rfl rfl ?_); first | refine QW QP ?_ | refine QW (rr_nilc rfl) ?_ | refine QW (rr_load1 TyC.ty rfl (at_blk (i := 0) rfl rfl)) ?_ | refine QW QS ?_ | refine QW QS ?_ | refine QW QA ?_ | refine QW (rr_nilc rfl) ?_ | refine QW QlT ?_ | refine QW QlF ?_ | refine QW QeT ?_ | refine QW QeF ?_ | refine QW QaA ?_)
              | refine TW_skip rfl rfl rfl rfl rfl rfl rfl ?_ | refine TW_done ?_)
            repeat (first
              | refine QV QP ?_ | refine QZ ?_ | refine qcT rfl ?_ | refine qcF rfl ?_ | refine E_blockX ?_ | refine E_blockO rfl ?_
              | refine qs rfl rfl rfl rfl rfl rfl ?_
              | ((try refine qg rfl rfl rfl ?_); first | refine QV QP ?_ | refine QV QS ?_ | refine QV QA ?_ | refine QV (rr_nilc rfl) ?_ | refine QV QlT ?_ | refine QV QlF ?_ | refine QV QeT ?_ | refine QV QeF ?_ | refine QV QaA ?_))
            refine E_pick [0, 1, 2, 4, 5, 7] (by decide) rfl ?_
            exact E_mid (C4.zero, m, n) ⟨endC_zero hend, hmk⟩ (by repeat' (first | exact True.intro | refine And.intro rfl ?_)) rfl
        | alt a b =>
          conv => arg 6; simp only [Re.kind]
          obtain ⟨bk, off, cap, rfl, hF, hkid⟩ := nkid_at hks (by show 0 < 2; omega)
          obtain ⟨vk0, v0, r0, o0, p0, n0⟩ := hkid 0 (by show 0 < 2; omega)
          obtain ⟨vk1, v1, r1, o1, p1, n1⟩ := hkid 1 (by show 1 < 2; omega)
          replace r0 : Rd w1 bk (off + 0 * 8) (numC a (k + 1) vk0 v0) := r0
          replace r1 : Rd w1 bk (off + 1 * 8) (numC b (k + 1 + a.size) vk1 v1) := r1
          have k0 := con_kid hcon (j := 0) (by show 0 < 2; omega)
          have k1 := con_kid hcon (j := 1) (by show 1 < 2; omega)
          have E0 : EndsOk w0 s N gs gm F w1 a (numC a (k + 1) vk0 v0) := IH a (by have : a.size < (Re.alt a b).size := k0.2.2; omega) (k + 1) _ n0 k0.1 (by have : k + 1 + a.size ≤ k + (Re.alt a b).size := k0.2.1; omega)
          have E1 : EndsOk w0 s N gs gm F w1 b (numC b (k + 1 + a.size) vk1 v1) := IH b (by have : b.size < (Re.alt a b).size := k1.2.2; omega) (k + 1 + a.size) _ n1 k1.1 (by have : k + 1 + a.size + b.size ≤ k + (Re.alt a b).size := k1.2.1; omega)
          clear hkid IH
          repeat (first
            | refine QV QP ?_ | refine QZ ?_ | refine qcT rfl ?_ | refine qcF rfl ?_ | refine E_blockX ?_ | refine E_blockO rfl ?_
            | refine qs rfl rfl rfl rfl rfl rfl ?_
            | ((try refine qg rfl rfl rfl ?_); first | refine QV QP ?_ | refine QV QS ?_ | refine QV QA ?_ | refine QV (rr_nilc rfl) ?_ | refine QV QlT ?_ | refine QV QlF ?_ | refine QV QeT ?_ | refine QV QeF ?_ | refine QV QaA ?_))
          (repeat refine T_seq ?_)
          refine T_ord ([frozO F w1, blkO g4 (numC (.alt a b) k vk (.slice (some ⟨bk, off, none⟩) 2 cap)).toArray 119]) (.calm 0 (.calm 1 (.calm 2 (.calm 3 (.calm 4 (.calm 5 (.calm 7 (.calm 8 (.calm 9 (.calm 10 (.calm 11 (.calm 12 (.one 6 (.one 13 (.calm 14 (.one 15 (.done))))))))))))))))) (sub_pick [2, 3] (by decide) rfl) (by kernel_rfl) (by kernel_rfl) (by intro c a d v w h; cases d <;> exact h) ?_
          repeat (first
            | ((first | refine TW_plain rfl rfl ?_ | refine TW_gmet rfl rfl rfl rfl ?_); first | refine QW QP ?_ | refine QW (rr_load1 (v := .slice (some ⟨bk, off, none⟩) 2 cap) TyC.ty rfl (at_blk (i := 1) rfl rfl)) ?_ | refine QW (rr_idxc (j := 0) Und.eq TyC.ty rfl rfl (by decide)) ?_ | refine QW (rr_idxc (j := 1) Und.eq TyC.ty rfl rfl (by decide)) ?_ | refine QW (rr_loadN (cs := numC a (k + 1) vk0 v0) TyC.ty rfl rfl (at_froz (i := 0) rfl hF r0)) ?_ | refine QW (rr_loadN (cs := numC b (k + 1 + a.size) vk1 v1) TyC.ty rfl rfl (at_froz (i := 0) rfl hF r1)) ?_ | refine QW QS ?_ | refine QW QA ?_ | refine QW (rr_nilc rfl) ?_ | refine QW QlT ?_ | refine QW QlF ?_ | refine QW QeT ?_ | refine QW QeF ?_ | refine QW QaA ?_)
            | refine TW_skip rfl rfl rfl rfl rfl rfl rfl ?_ | refine TW_done ?_)
          refine TW_one rfl (TL_callB [0, 1, 2] [3, 4, 5, 6, 7] (by decide) rfl rfl (he3 EntersC.en rfl rfl rfl rfl) (fun w hm hb => E0 f m n w _ hf hmk (ho.on hm (by intro o ho; simp [spO, mO] at ho ⊢; rcases ho with h | h | h <;> simp [h])) hb) rfl rfl rfl ?_)
          rintro ⟨x, m', n'⟩ ⟨hx, hmk'⟩
          conv => arg 8; simp only [zA, zB, zC, zD, zE, zF, zG, zH, zI, rowS, ret, id_eq, endSp]
          refine TW_on (sub_pick [7, 0] (by decide) rfl) ?_
          refine TW_one rfl (TL_callB [5, 6, 7] [0, 1, 2, 3, 4] (by decide) rfl rfl (he3 EntersC.en rfl rfl rfl rfl) (fun w hm hb => E1 f m' n' w _ hf hmk' (ho.on hm (by intro o ho; simp [spO, mO] at ho ⊢; rcases ho with h | h | h <;> simp [h])) hb) rfl rfl rfl ?_)
          rintro ⟨y, m'', n''⟩ ⟨hy, hmk''⟩
          conv => arg 8; simp only [zA, zB, zC, zD, zE, zF, zG, zH, zI, rowS, ret, id_eq, endSp]
          refine TW_on (sub_pick [7, 0] (by decide) rfl) ?_
          repeat (first
            | ((first | refine TW_plain rfl rfl ?_ | refine TW_gmet rfl rfl rfl rfl ?_); first | refine QW QP ?_ | refine QW QS ?_ | refine QW QA ?_ | refine QW (rr_nilc rfl) ?_ | refine QW QlT ?_ | refine QW QlF ?_ | refine QW QeT ?_ | refine QW QeF ?_ | refine QW QaA ?_)
            | refine TW_skip rfl rfl rfl rfl rfl rfl rfl ?_ | refine TW_done ?_)
          refine TW_call rfl (he2 EntersC.en rfl rfl rfl) (fun w hm => joinE x y _) rfl rfl rfl ?_
          refine TW_one rfl (TL_storeB (i := 4) (cs' := (clsL (x.join y)).toArray) rfl rfl rfl rfl rfl rfl (TW_on (sub_pick [7, 0] (by decide) rfl) ?_))
          repeat (first
            | ((first | refine TW_plain rfl rfl ?_ | refine TW_gmet rfl rfl rfl rfl ?_); first | refine QW QP ?_ | refine QW QS ?_ | refine QW QA ?_ | refine QW (rr_nilc rfl) ?_ | refine QW QlT ?_ | refine QW QlF ?_ | refine QW QeT ?_ | refine QW QeF ?_ | refine QW QaA ?_)
            | refine TW_skip rfl rfl rfl rfl rfl rfl rfl ?_ | refine TW_done ?_)
          repeat (first
            | refine QV QP ?_ | refine QZ ?_ | refine qcT rfl ?_ | refine qcF rfl ?_ | refine E_blockX ?_ | refine E_blockO rfl ?_
            | refine qs rfl rfl rfl rfl rfl rfl ?_
            | ((try refine qg rfl rfl rfl ?_); first | refine QV QP ?_ | refine QV QS ?_ | refine QV QA ?_ | refine QV (rr_nilc rfl) ?_ | refine QV QlT ?_ | refine QV QlF ?_ | refine QV QeT ?_ | refine QV QeF ?_ | refine QV QaA ?_))
          refine E_pick [5, 6, 7, 1, 2, 4] (by decide) rfl ?_
          exact E_mid (x.join y, m'', n'') ⟨endC_alt hx hy, hmk''⟩ (by repeat' (first | exact True.intro | refine And.intro rfl ?_)) rfl
        | cat a b =>
          conv => arg 6; simp only [Re.kind]
          obtain ⟨bk, off, cap, rfl, hF, hkid⟩ := nkid_at hks (by show 0 < 2; omega)
          obtain ⟨vk0, v0, r0, o0, p0, n0⟩ := hkid 0 (by show 0 < 2; omega)
          obtain ⟨vk1, v1, r1, o1, p1, n1⟩ := hkid 1 (by show 1 < 2; omega)
          replace r0 : Rd w1 bk (off + 0 * 8) (numC a (k + 1) vk0 v0) := r0
          replace r1 : Rd w1 bk (off + 1 * 8) (numC b (k + 1 + a.size) vk1 v1) := r1
          have k0 := con_kid hcon (j := 0) (by show 0 < 2; omega)
          have k1 := con_kid hcon (j := 1) (by show 1 < 2; omega)
          have E0 : EndsOk w0 s N gs gm F w1 a (numC a (k + 1) vk0 v0) := IH a (by have : a.size < (Re.cat a b).size := k0.2.2; omega) (k + 1) _ n0 k0.1 (by have : k + 1 + a.size ≤ k + (Re.cat a b).size := k0.2.1; omega)
          have E1 : EndsOk w0 s N gs gm F w1 b (numC b (k + 1 + a.size) vk1 v1) := IH b (by have : b.size < (Re.cat a b).size := k1.2.2; omega) (k + 1 + a.size) _ n1 k1.1 (by have : k + 1 + a.size + b.size ≤ k + (Re.cat a b).size := k1.2.1; omega)
          clear hkid IH
          repeat (first
            | refine QV QP ?_ | refine QZ ?_ | refine qcT rfl ?_ | refine qcF rfl ?_ | refine E_blockX ?_ | refine E_blockO rfl ?_
            | refine qs rfl rfl rfl rfl rfl rfl ?_
            | ((try refine qg rfl rfl rfl ?_); first | refine QV QP ?_ | refine QV QS ?_ | refine QV QA ?_ | refine QV (rr_nilc rfl) ?_ | refine QV QlT ?_ | refine QV QlF ?_ | refine QV QeT ?_ | refine QV QeF ?_ | refine QV QaA ?_))
          (repeat refine T_seq ?_)
          refine T_ord ([frozO F w1, blkO g4 (numC (.cat a b) k vk (.slice (some ⟨bk, off, none⟩) 2 cap)).toArray 119]) (.calm 0 (.calm 1 (.calm 2 (.calm 3 (.calm 4 (.calm 5 (.calm 6 (.calm 8 (.calm 9 (.calm 10 (.calm 11 (.one 7 (.one 12 (.one 13 (.done))))))))))))))) (sub_pick [2, 3] (by decide) rfl) (by kernel_rfl) (by kernel_rfl) (by intro c a d v w h; cases d <;> exact h) ?_
          repeat (first
            | ((first | refine TW_plain rfl rfl ?_ | refine TW_gmet rfl rfl rfl rfl ?_); first | refine QW QP ?_ | refine QW (rr_load1 (v := .slice (some ⟨bk, off, none⟩) 2 cap) TyC.ty rfl (at_blk (i := 1) rfl rfl)) ?_ | refine QW (rr_idxc (j := 0) Und.eq TyC.ty rfl rfl (by decide)) ?_ | refine QW (rr_idxc (j := 1) Und.eq TyC.ty rfl rfl (by decide)) ?_ | refine QW (rr_loadN (cs := numC a (k + 1) vk0 v0) TyC.ty rfl rfl (at_froz (i := 0) rfl hF r0)) ?_ | refine QW (rr_loadN (cs := numC b (k + 1 + a.size) vk1 v1) TyC.ty rfl rfl (at_froz (i := 0) rfl hF r1)) ?_ | refine QW QS ?_ | refine QW QA ?_ | refine QW (rr_nilc rfl) ?_ | refine QW QlT ?_ | refine QW QlF ?_ | refine QW QeT ?_ | refine QW QeF ?_ | refine QW QaA ?_)
            | refine TW_skip rfl rfl rfl rfl rfl rfl rfl ?_ | refine TW_done ?_)
          refine TW_one rfl (TL_callB [0, 1, 2] [3, 4, 5, 6, 7] (by decide) rfl rfl (he3 EntersC.en rfl rfl rfl rfl) (fun w hm hb => E0 f m n w _ hf hmk (ho.on hm (by intro o ho; simp [spO, mO] at ho ⊢; rcases ho with h | h | h <;> simp [h])) hb) rfl rfl rfl ?_)
          rintro ⟨x, m', n'⟩ ⟨hx, hmk'⟩
          conv => arg 8; simp only [zA, zB, zC, zD, zE, zF, zG, zH, zI, rowS, ret, id_eq, endSp]
          refine TW_on (sub_pick [7, 0] (by decide) rfl) ?_
          refine TW_one rfl (TL_callB [5, 6, 7] [0, 1, 2, 3, 4] (by decide) rfl rfl (he3 EntersC.en rfl rfl rfl rfl) (fun w hm hb => each4_calls w0 hT s hs N gs gm F w1 b _ _ _ E1 o1 p1 x (endC_le hx) m' n' w _ hmk' (ho.on hm (by intro o ho; simp [spO, mO] at ho ⊢; rcases ho with h | h | h <;> simp [h])) hb) rfl rfl rfl ?_)
          rintro ⟨y, m'', n''⟩ ⟨hy, hmk''⟩
          conv => arg 8; simp only [zA, zB, zC, zD, zE, zF, zG, zH, zI, rowS, ret, id_eq, eachSp]
          refine TW_on (sub_pick [7, 0] (by decide) rfl) ?_
          refine TW_one rfl (TL_storeB (i := 4) (cs' := (clsL y).toArray) rfl rfl rfl rfl rfl rfl (TW_on (sub_pick [7, 0] (by decide) rfl) ?_))
          repeat (first
            | ((first | refine TW_plain rfl rfl ?_ | refine TW_gmet rfl rfl rfl rfl ?_); first | refine QW QP ?_ | refine QW QS ?_ | refine QW QA ?_ | refine QW (rr_nilc rfl) ?_ | refine QW QlT ?_ | refine QW QlF ?_ | refine QW QeT ?_ | refine QW QeF ?_ | refine QW QaA ?_)
            | refine TW_skip rfl rfl rfl rfl rfl rfl rfl ?_ | refine TW_done ?_)
          repeat (first
            | refine QV QP ?_ | refine QZ ?_ | refine qcT rfl ?_ | refine qcF rfl ?_ | refine E_blockX ?_ | refine E_blockO rfl ?_
            | refine qs rfl rfl rfl rfl rfl rfl ?_
            | ((try refine qg rfl rfl rfl ?_); first | refine QV QP ?_ | refine QV QS ?_ | refine QV QA ?_ | refine QV (rr_nilc rfl) ?_ | refine QV QlT ?_ | refine QV QlF ?_ | refine QV QeT ?_ | refine QV QeF ?_ | refine QV QaA ?_))
          refine E_pick [5, 6, 7, 1, 2, 4] (by decide) rfl ?_
          exact E_mid (y, m'', n'') ⟨endC_cat hs hx hy, hmk''⟩ (by repeat' (first | exact True.intro | refine And.intro rfl ?_)) rfl
        | star a =>
          conv => arg 6; simp only [Re.kind]
          obtain ⟨bk, off, cap, rfl, hF, hkid⟩ := nkid_at hks (by show 0 < 1; omega)
          obtain ⟨vk0, v0, r0, o0, p0, n0⟩ := hkid 0 (by show 0 < 1; omega)
          replace r0 : Rd w1 bk (off + 0 * 8) (numC a (k + 1) vk0 v0) := r0
          have k0 := con_kid hcon (j := 0) (by show 0 < 1; omega)
          have E0 : EndsOk w0 s N gs gm F w1 a (numC a (k + 1) vk0 v0) := IH a (by have : a.size < (Re.star a).size := k0.2.2; omega) (k + 1) _ n0 k0.1 (by have : k + 1 + a.size ≤ k + (Re.star a).size := k0.2.1; omega)
          clear hkid IH
          have hrg := fun w => rangeE f f hkey.2 hkey.2 w
          have hst := sti0 hs (a := a) hf
          have hnot := notE
          have hmeet := meetE
          have hjoin := joinE
          have hbz := build_cz
          repeat (first
            | refine QV QP ?_ | refine QZ ?_ | refine qcT rfl ?_ | refine qcF rfl ?_ | refine E_blockX ?_ | refine E_blockO rfl ?_
            | refine qs rfl rfl rfl rfl rfl rfl ?_
            | ((try refine qg rfl rfl rfl ?_); first | refine QV QP ?_ | refine QV QS ?_ | refine QV QA ?_ | refine QV (rr_nilc rfl) ?_ | refine QV QlT ?_ | refine QV QlF ?_ | refine QV QeT ?_ | refine QV QeF ?_ | refine QV QaA ?_))
          refine TL_call (he2 EntersC.en rfl rfl rfl) (fun w hm => hrg _) rfl rfl rfl ?_
          intro _ _
          conv => arg 8; simp only [zA, zB, zC, zD, zE, zF, zG, zH, zI, rowS, ret, id_eq]
          refine TL_storeB (i := 7) (cs' := (clsL (rangeF f f)).toArray) rfl rfl rfl rfl rfl rfl ?_
          conv => arg 8; simp only [zA, zB, zC, zD, zE, zF, zG, zH, zI, rowS, ret, id_eq]
          repeat (first
            | refine QV QP ?_ | refine QZ ?_ | refine qcT rfl ?_ | refine qcF rfl ?_ | refine E_blockX ?_ | refine E_blockO rfl ?_
            | refine qs rfl rfl rfl rfl rfl rfl ?_
            | ((try refine qg rfl rfl rfl ?_); first | refine QV QP ?_ | refine QV (rr_loadB (i := 7) TyC.ty rfl rfl rfl) ?_ | refine QV QS ?_ | refine QV QA ?_ | refine QV (rr_nilc rfl) ?_ | refine QV QlT ?_ | refine QV QlF ?_ | refine QV QeT ?_ | refine QV QeF ?_ | refine QV QaA ?_))
          refine TL_new rfl fun g11 => ?_
          conv => arg 8; simp only [zA, zB, zC, zD, zE, zF, zG, zH, zI, rowS, ret, id_eq]
          refine TL_storeB (i := 8) (cs' := (clsL (rangeF f f)).toArray) rfl rfl rfl rfl rfl rfl ?_
          conv => arg 8; simp only [zA, zB, zC, zD, zE, zF, zG, zH, zI, rowS, ret, id_eq]
          repeat (first
            | refine QV QP ?_ | refine QZ ?_ | refine qcT rfl ?_ | refine qcF rfl ?_ | refine E_blockX ?_ | refine E_blockO rfl ?_
            | refine qs rfl rfl rfl rfl rfl rfl ?_
            | ((try refine qg rfl rfl rfl ?_); first | refine QV QP ?_ | refine QV QS ?_ | refine QV QA ?_ | refine QV (rr_nilc rfl) ?_ | refine QV QlT ?_ | refine QV QlF ?_ | refine QV QeT ?_ | refine QV QeF ?_ | refine QV QaA ?_))
          refine T_pick [0, 1, 2, 3, 4, 5, 7, 8] (by decide) rfl ?_
          refine T_loop (ι := C4 × C4 × (At2 → Option Value) × Nat × Nat) (fun (out, now, m, n, _) => StI s a f out now ∧ MOk s N m n) (fun (_, _, _, _, g11) => [(0, .pointer (some ⟨gs, 0, none⟩)), (4, .pointer (some ⟨g4, 0, none⟩)), (6, .pointer (some ⟨g6, 0, none⟩)), (7, .pointer (some ⟨g7, 0, none⟩)), (10, .pointer (some ⟨g10, 0, none⟩)), (11, .pointer (some ⟨g11, 0, none⟩))])
            (fun (out, now, m, n, g11) => [blkO gs #[str s, .map (some gm)] 115, mapO atK gm m n, frozO F w1, blkO g4 (numC (.star a) k vk (.slice (some ⟨bk, off, none⟩) 1 cap)).toArray 119, blkO g6 (clsL C4.zero).toArray 31, blkO g7 (atC (k, f)).toArray 126, blkO g10 (clsL out).toArray 31, blkO g11 (clsL now).toArray 31]) (fun (out, now, _, _, _) => muS out now) (rangeF f f, rangeF f f, m, n, g11) ⟨hst, hmk⟩ (by repeat' (first | exact True.intro | refine And.intro rfl ?_)) rfl ?_
          clear hmk hst e g11
          rintro ⟨out, now, m, n, g11⟩ ⟨hst, hmk⟩
          dsimp only at hst hmk ⊢
          have heq := eqCls now C4.zero
          by_cases c1 : now = C4.zero
          · subst c1
            rw [decide_eq_true rfl] at heq
            repeat (first
              | refine QV QP ?_ | refine QZ ?_ | refine qcT rfl ?_ | refine qcF rfl ?_ | refine E_blockX ?_ | refine E_blockO rfl ?_
              | refine qs rfl rfl rfl rfl rfl rfl ?_
              | ((try refine qg rfl rfl rfl ?_); first | refine QV QP ?_ | refine QV (rr_loadB (i := 7) TyC.ty rfl rfl rfl) ?_ | refine QV (rr_build rfl hbz) ?_ | refine QV (rr_aggne rfl rfl (by kernel_rfl) heq rfl) ?_ | refine QV QS ?_ | refine QV QA ?_ | refine QV (rr_nilc rfl) ?_ | refine QV QlT ?_ | refine QV QlF ?_ | refine QV QeT ?_ | refine QV QeF ?_ | refine QV QaA ?_))
            refine E_pick [0, 1, 2, 4, 5, 6] (by decide) rfl ?_
            exact E_mid (out, m, n) ⟨sti_end hs hf hst, hmk⟩ (by repeat' (first | exact True.intro | refine And.intro rfl ?_)) rfl
          · rw [decide_eq_false c1] at heq
            have hle := hst.le hf
            have hmu := fun e => mu_next (out := out) (e := e) c1
            repeat (first
              | refine QV QP ?_ | refine QZ ?_ | refine qcT rfl ?_ | refine qcF rfl ?_ | refine E_blockX ?_ | refine E_blockO rfl ?_
              | refine qs rfl rfl rfl rfl rfl rfl ?_
              | ((try refine qg rfl rfl rfl ?_); first | refine QV QP ?_ | refine QV (rr_loadB (i := 7) TyC.ty rfl rfl rfl) ?_ | refine QV (rr_build rfl hbz) ?_ | refine QV (rr_aggne rfl rfl (by kernel_rfl) heq rfl) ?_ | refine QV QS ?_ | refine QV QA ?_ | refine QV (rr_nilc rfl) ?_ | refine QV QlT ?_ | refine QV QlF ?_ | refine QV QeT ?_ | refine QV QeF ?_ | refine QV QaA ?_))
            (repeat refine T_seq ?_)
            refine T_midq (ι := C4 × (At2 → Option Value) × Nat × Nat) (fun (e, m, n, _) => EachC s a now e ∧ MOk s N m n) (fun (_, _, _, g12) => [(0, .pointer (some ⟨gs, 0, none⟩)), (4, .pointer (some ⟨g4, 0, none⟩)), (6, .pointer (some ⟨g6, 0, none⟩)), (7, .pointer (some ⟨g7, 0, none⟩)), (10, .pointer (some ⟨g10, 0, none⟩)), (11, .pointer (some ⟨g11, 0, none⟩)), (12, .pointer (some ⟨g12, 0, none⟩))])
              (fun (e, m, n, g12) => [blkO gs #[str s, .map (some gm)] 115, mapO atK gm m n, frozO F w1, blkO g4 (numC (.star a) k vk (.slice (some ⟨bk, off, none⟩) 1 cap)).toArray 119, blkO g6 (clsL C4.zero).toArray 31, blkO g7 (atC (k, f)).toArray 126, blkO g10 (clsL out).toArray 31, blkO g11 (clsL now).toArray 31, blkO g12 (clsL (e.meet out.not)).toArray 31]) ?_ ?_
            · refine T_ord ([frozO F w1, blkO g4 (numC (.star a) k vk (.slice (some ⟨bk, off, none⟩) 1 cap)).toArray 119, blkO g10 (clsL out).toArray 31, blkO g11 (clsL now).toArray 31]) (.calm 0 (.calm 1 (.calm 2 (.calm 3 (.calm 4 (.calm 5 (.calm 7 (.two 6 (.calm 8 (.calm 9 (.one 10 (.one 11 (.done))))) 10 (.one 6 (.calm 8 (.calm 9 (.one 11 (.done))))))))))))) (sub_pick [2, 3, 6, 7] (by decide) rfl) (by kernel_rfl) (by kernel_rfl) (by intro c a d v w h; cases d <;> exact h) ?_
              repeat (first
                | ((first | refine TW_plain rfl rfl ?_ | refine TW_gmet rfl rfl rfl rfl ?_); first | refine QW QP ?_ | refine QW (rr_loadB (i := 3) TyC.ty rfl rfl rfl) ?_ | refine QW (rr_load1 (v := .slice (some ⟨bk, off, none⟩) 1 cap) TyC.ty rfl (at_blk (i := 1) rfl rfl)) ?_ | refine QW (rr_idxc (j := 0) Und.eq TyC.ty rfl rfl (by decide)) ?_ | refine QW (rr_loadN (cs := numC a (k + 1) vk0 v0) TyC.ty rfl rfl (at_froz (i := 0) rfl hF r0)) ?_ | refine QW (rr_loadB (i := 2) TyC.ty rfl rfl rfl) ?_ | refine QW QS ?_ | refine QW QA ?_ | refine QW (rr_nilc rfl) ?_ | refine QW QlT ?_ | refine QW QlF ?_ | refine QW QeT ?_ | refine QW QeF ?_ | refine QW QaA ?_)
                | refine TW_skip rfl rfl rfl rfl rfl rfl rfl ?_ | refine TW_done ?_)
              refine TW_two rfl rfl ?_ ?_
              · refine TL_callB [0, 1, 2] [3, 4, 5, 6, 7] (by decide) rfl rfl (he3 EntersC.en rfl rfl rfl rfl) (fun w hm hb => each4_calls w0 hT s hs N gs gm F w1 a _ _ _ E0 o0 p0 now hle m n w _ hmk (ho.on hm (by intro o ho; simp [spO, mO] at ho ⊢; rcases ho with h | h | h <;> simp [h])) hb) rfl rfl rfl ?_
                rintro ⟨e, m', n'⟩ ⟨he, hmk'⟩
                conv => arg 8; simp only [zA, zB, zC, zD, zE, zF, zG, zH, zI, rowS, ret, id_eq, eachSp]
                refine TW_on (sub_pick [7, 0, 3, 4] (by decide) rfl) ?_
                repeat (first
                  | ((first | refine TW_plain rfl rfl ?_ | refine TW_gmet rfl rfl rfl rfl ?_); first | refine QW QP ?_ | refine QW QS ?_ | refine QW QA ?_ | refine QW (rr_nilc rfl) ?_ | refine QW QlT ?_ | refine QW QlF ?_ | refine QW QeT ?_ | refine QW QeF ?_ | refine QW QaA ?_)
                  | refine TW_skip rfl rfl rfl rfl rfl rfl rfl ?_ | refine TW_done ?_)
                refine TW_call rfl (he1 EntersC.en rfl rfl) (fun w hm => hnot out _) rfl rfl rfl ?_
                repeat (first
                  | ((first | refine TW_plain rfl rfl ?_ | refine TW_gmet rfl rfl rfl rfl ?_); first | refine QW QP ?_ | refine QW QS ?_ | refine QW QA ?_ | refine QW (rr_nilc rfl) ?_ | refine QW QlT ?_ | refine QW QlF ?_ | refine QW QeT ?_ | refine QW QeF ?_ | refine QW QaA ?_)
                  | refine TW_skip rfl rfl rfl rfl rfl rfl rfl ?_ | refine TW_done ?_)
                refine TW_call rfl (he2 EntersC.en rfl rfl rfl) (fun w hm => hmeet e out.not _) rfl rfl rfl ?_
                repeat (first
                  | ((first | refine TW_plain rfl rfl ?_ | refine TW_gmet rfl rfl rfl rfl ?_); first | refine QW QP ?_ | refine QW QS ?_ | refine QW QA ?_ | refine QW (rr_nilc rfl) ?_ | refine QW QlT ?_ | refine QW QlF ?_ | refine QW QeT ?_ | refine QW QeF ?_ | refine QW QaA ?_)
                  | refine TW_skip rfl rfl rfl rfl rfl rfl rfl ?_ | refine TW_done ?_)
                refine TW_one rfl (TL_new rfl fun g12 => TW_on (sub_pick [7, 0, 3, 4] (by decide) rfl) ?_)
                refine TW_one rfl (TL_storeB (i := 8) (cs' := (clsL (e.meet out.not)).toArray) rfl rfl rfl rfl rfl rfl (TW_on (sub_pick [7, 0, 3, 4] (by decide) rfl) ?_))
                repeat (first
                  | ((first | refine TW_plain rfl rfl ?_ | refine TW_gmet rfl rfl rfl rfl ?_); first | refine QW QP ?_ | refine QW QS ?_ | refine QW QA ?_ | refine QW (rr_nilc rfl) ?_ | refine QW QlT ?_ | refine QW QlF ?_ | refine QW QeT ?_ | refine QW QeF ?_ | refine QW QaA ?_)
                  | refine TW_skip rfl rfl rfl rfl rfl rfl rfl ?_ | refine TW_done ?_)
                refine E_pick [5, 6, 7, 0, 1, 2, 3, 4, 8] (by decide) rfl ?_
                exact E_mid (e, m', n', g12) ⟨he, hmk'⟩ (by repeat' (first | exact True.intro | refine And.intro rfl ?_)) rfl
              · refine TL_new rfl fun g12 => TW_on (sub_pick [2, 3, 6, 7] (by decide) rfl) ?_
                refine TW_one rfl (TL_callB [0, 1, 2] [3, 4, 5, 6, 7, 8] (by decide) rfl rfl (he3 EntersC.en rfl rfl rfl rfl) (fun w hm hb => each4_calls w0 hT s hs N gs gm F w1 a _ _ _ E0 o0 p0 now hle m n w _ hmk (ho.on hm (by intro o ho; simp [spO, mO] at ho ⊢; rcases ho with h | h | h <;> simp [h])) hb) rfl rfl rfl ?_)
                rintro ⟨e, m', n'⟩ ⟨he, hmk'⟩
                conv => arg 8; simp only [zA, zB, zC, zD, zE, zF, zG, zH, zI, rowS, ret, id_eq, eachSp]
                refine TW_on (sub_pick [8, 0, 3, 4] (by decide) rfl) ?_
                repeat (first
                  | ((first | refine TW_plain rfl rfl ?_ | refine TW_gmet rfl rfl rfl rfl ?_); first | refine QW QP ?_ | refine QW QS ?_ | refine QW QA ?_ | refine QW (rr_nilc rfl) ?_ | refine QW QlT ?_ | refine QW QlF ?_ | refine QW QeT ?_ | refine QW QeF ?_ | refine QW QaA ?_)
                  | refine TW_skip rfl rfl rfl rfl rfl rfl rfl ?_ | refine TW_done ?_)
                refine TW_call rfl (he1 EntersC.en rfl rfl) (fun w hm => hnot out _) rfl rfl rfl ?_
                repeat (first
                  | ((first | refine TW_plain rfl rfl ?_ | refine TW_gmet rfl rfl rfl rfl ?_); first | refine QW QP ?_ | refine QW QS ?_ | refine QW QA ?_ | refine QW (rr_nilc rfl) ?_ | refine QW QlT ?_ | refine QW QlF ?_ | refine QW QeT ?_ | refine QW QeF ?_ | refine QW QaA ?_)
                  | refine TW_skip rfl rfl rfl rfl rfl rfl rfl ?_ | refine TW_done ?_)
                refine TW_call rfl (he2 EntersC.en rfl rfl rfl) (fun w hm => hmeet e out.not _) rfl rfl rfl ?_
                repeat (first
                  | ((first | refine TW_plain rfl rfl ?_ | refine TW_gmet rfl rfl rfl rfl ?_); first | refine QW QP ?_ | refine QW QS ?_ | refine QW QA ?_ | refine QW (rr_nilc rfl) ?_ | refine QW QlT ?_ | refine QW QlF ?_ | refine QW QeT ?_ | refine QW QeF ?_ | refine QW QaA ?_)
                  | refine TW_skip rfl rfl rfl rfl rfl rfl rfl ?_ | refine TW_done ?_)
                refine TW_one rfl (TL_storeB (i := 5) (cs' := (clsL (e.meet out.not)).toArray) rfl rfl rfl rfl rfl rfl (TW_on (sub_pick [8, 0, 3, 4] (by decide) rfl) ?_))
                repeat (first
                  | ((first | refine TW_plain rfl rfl ?_ | refine TW_gmet rfl rfl rfl rfl ?_); first | refine QW QP ?_ | refine QW QS ?_ | refine QW QA ?_ | refine QW (rr_nilc rfl) ?_ | refine QW QlT ?_ | refine QW QlF ?_ | refine QW QeT ?_ | refine QW QeF ?_ | refine QW QaA ?_)
                  | refine TW_skip rfl rfl rfl rfl rfl rfl rfl ?_ | refine TW_done ?_)
                refine E_pick [6, 7, 8, 0, 1, 2, 3, 4, 5] (by decide) rfl ?_
                exact E_mid (e, m', n', g12) ⟨he, hmk'⟩ (by repeat' (first | exact True.intro | refine And.intro rfl ?_)) rfl
            · rintro ⟨e, m', n', g12⟩ ⟨he, hmk'⟩
              dsimp only at he hmk' ⊢
              have hnx := sti_next hs hst he
              have hmu' := hmu e
              clear hmu
              generalize e.meet out.not = nx at *
              (repeat refine T_seq ?_)
              refine T_ord ([blkO g12 (clsL nx).toArray 31]) (.calm 1 (.calm 3 (.one 0 (.calm 2 (.one 4 (.one 5 (.done))))))) (sub_pick [8] (by decide) rfl) (by kernel_rfl) (by kernel_rfl) (by intro c a d v w h; cases d <;> exact h) ?_
              repeat (first
                | ((first | refine TW_plain rfl rfl ?_ | refine TW_gmet rfl rfl rfl rfl ?_); first | refine QW QP ?_ | refine QW (rr_loadB (i := 0) TyC.ty rfl rfl rfl) ?_ | refine QW QS ?_ | refine QW QA ?_ | refine QW (rr_nilc rfl) ?_ | refine QW QlT ?_ | refine QW QlF ?_ | refine QW QeT ?_ | refine QW QeF ?_ | refine QW QaA ?_)
                | refine TW_skip rfl rfl rfl rfl rfl rfl rfl ?_ | refine TW_done ?_)
              refine TW_one rfl (TL_val (rr_loadB (i := 6) TyC.ty rfl rfl rfl) rfl rfl rfl (TW_on (sub_pick [8] (by decide) rfl) ?_))
              repeat (first
                | ((first | refine TW_plain rfl rfl ?_ | refine TW_gmet rfl rfl rfl rfl ?_); first | refine QW QP ?_ | refine QW QS ?_ | refine QW QA ?_ | refine QW (rr_nilc rfl) ?_ | refine QW QlT ?_ | refine QW QlF ?_ | refine QW QeT ?_ | refine QW QeF ?_ | refine QW QaA ?_)
                | refine TW_skip rfl rfl rfl rfl rfl rfl rfl ?_ | refine TW_done ?_)
              refine TW_call rfl (he2 EntersC.en rfl rfl rfl) (fun w hm => hjoin out nx _) rfl rfl rfl ?_
              refine TW_one rfl (TL_storeB (i := 6) (cs' := (clsL (out.join nx)).toArray) rfl rfl rfl rfl rfl rfl (TW_on (sub_pick [8] (by decide) rfl) ?_))
              refine TW_one rfl (TL_storeB (i := 7) (cs' := (clsL nx).toArray) rfl rfl rfl rfl rfl rfl (TW_on (sub_pick [8] (by decide) rfl) ?_))
              repeat (first
                | ((first | refine TW_plain rfl rfl ?_ | refine TW_gmet rfl rfl rfl rfl ?_); first | refine QW QP ?_ | refine QW QS ?_ | refine QW QA ?_ | refine QW (rr_nilc rfl) ?_ | refine QW QlT ?_ | refine QW QlF ?_ | refine QW QeT ?_ | refine QW QeF ?_ | refine QW QaA ?_)
                | refine TW_skip rfl rfl rfl rfl rfl rfl rfl ?_ | refine TW_done ?_)
              repeat (first
                | refine QV QP ?_ | refine QZ ?_ | refine qcT rfl ?_ | refine qcF rfl ?_ | refine E_blockX ?_ | refine E_blockO rfl ?_
                | refine qs rfl rfl rfl rfl rfl rfl ?_
                | ((try refine qg rfl rfl rfl ?_); first | refine QV QP ?_ | refine QV (rr_loadB (i := 7) TyC.ty rfl rfl rfl) ?_ | refine QV QS ?_ | refine QV QA ?_ | refine QV (rr_nilc rfl) ?_ | refine QV QlT ?_ | refine QV QlF ?_ | refine QV QeT ?_ | refine QV QeF ?_ | refine QV QaA ?_))
              refine TL_new rfl fun g11' => ?_
              conv => arg 8; simp only [zA, zB, zC, zD, zE, zF, zG, zH, zI, rowS, ret, id_eq]
              refine TL_storeB (i := 9) (cs' := (clsL nx).toArray) rfl rfl rfl rfl rfl rfl ?_
              conv => arg 8; simp only [zA, zB, zC, zD, zE, zF, zG, zH, zI, rowS, ret, id_eq]
              repeat (first
                | refine QV QP ?_ | refine QZ ?_ | refine qcT rfl ?_ | refine qcF rfl ?_ | refine E_blockX ?_ | refine E_blockO rfl ?_
                | refine qs rfl rfl rfl rfl rfl rfl ?_
                | ((try refine qg rfl rfl rfl ?_); first | refine QV QP ?_ | refine QV QS ?_ | refine QV QA ?_ | refine QV (rr_nilc rfl) ?_ | refine QV QlT ?_ | refine QV QlF ?_ | refine QV QeT ?_ | refine QV QeF ?_ | refine QV QaA ?_))
              refine E_pick [0, 1, 2, 3, 4, 5, 6, 9] (by decide) rfl ?_
              exact E_round (out.join nx, nx, m', n', g11') ⟨hnx, hmk'⟩ hmu' (by repeat' (first | exact True.intro | refine And.intro rfl ?_)) rfl
      · rintro ⟨c, m', n'⟩ ⟨hc, hmk'⟩
        dsimp only at hc hmk' ⊢
        have hset := hmk'.set hs (k := k) (f := f) (by omega) hf (c := c) (by rw [hNk]; exact hc)
        have hn' := hmk'.le
        (repeat refine T_seq ?_)
        refine T_ord ([blkO gs #[str s, .map (some gm)] 115, blkO g7 (atC (k, f)).toArray 126, blkO g10 (clsL c).toArray 31]) (.calm 0 (.calm 1 (.calm 2 (.calm 3 (.calm 4 (.calm 5 (.one 6 (.done)))))))) (sub_pick [0, 4, 5] (by decide) rfl) (by kernel_rfl) (by kernel_rfl) (by intro c a d v w h; cases d <;> exact h) ?_
        repeat (first
          | ((first | refine TW_plain rfl rfl ?_ | refine TW_gmet rfl rfl rfl rfl ?_); first | refine QW QP ?_ | refine QW (rr_nilc rfl) ?_ | refine QW (rr_load1 TyC.ty rfl (at_blk (i := 0) rfl rfl)) ?_ | refine QW (rr_loadB (i := 1) TyC.ty rfl rfl rfl) ?_ | refine QW (rr_loadB (i := 2) TyC.ty rfl rfl rfl) ?_ | refine QW QS ?_ | refine QW QA ?_ | refine QW (rr_nilc rfl) ?_ | refine QW QlT ?_ | refine QW QlF ?_ | refine QW QeT ?_ | refine QW QeF ?_ | refine QW QaA ?_)
          | refine TW_skip rfl rfl rfl rfl rfl rfl rfl ?_ | refine TW_done ?_)
        refine TW_one rfl (TL_mapSet atK (i := 1) (x := (k, f)) Und.eq rfl rfl rfl rfl hkey (by omega) (TW_on (sub_pick [0, 4, 5] (by decide) rfl) ?_))
        repeat (first
          | ((first | refine TW_plain rfl rfl ?_ | refine TW_gmet rfl rfl rfl rfl ?_); first | refine QW QP ?_ | refine QW QS ?_ | refine QW QA ?_ | refine QW (rr_nilc rfl) ?_ | refine QW QlT ?_ | refine QW QlF ?_ | refine QW QeT ?_ | refine QW QeF ?_ | refine QW QaA ?_)
          | refine TW_skip rfl rfl rfl rfl rfl rfl rfl ?_ | refine TW_done ?_)
        repeat (first
          | refine QV QP ?_ | refine QZ ?_ | refine qcT rfl ?_ | refine qcF rfl ?_ | refine E_blockX ?_ | refine E_blockO rfl ?_
          | refine qs rfl rfl rfl rfl rfl rfl ?_
          | ((try refine qg rfl rfl rfl ?_); first | refine QV QP ?_ | refine QV (rr_loadB (i := 5) TyC.ty rfl rfl rfl) ?_ | refine QV QS ?_ | refine QV QA ?_ | refine QV (rr_nilc rfl) ?_ | refine QV QlT ?_ | refine QV QlF ?_ | refine QV QeT ?_ | refine QV QeF ?_ | refine QV QaA ?_))
        refine TL_storeB (i := 3) (cs' := (clsL c).toArray) rfl rfl rfl rfl rfl rfl ?_
        conv => arg 8; simp only [zA, zB, zC, zD, zE, zF, zG, zH, zI, rowS, ret, id_eq]
        repeat (first
          | refine QV QP ?_ | refine QZ ?_ | refine qcT rfl ?_ | refine qcF rfl ?_ | refine E_blockX ?_ | refine E_blockO rfl ?_
          | refine qs rfl rfl rfl rfl rfl rfl ?_
          | ((try refine qg rfl rfl rfl ?_); first | refine QV QP ?_ | refine QV QS ?_ | refine QV QA ?_ | refine QV (rr_nilc rfl) ?_ | refine QV QlT ?_ | refine QV QlF ?_ | refine QV QeT ?_ | refine QV QeF ?_ | refine QV QaA ?_))
        refine E_retc1 (i := 3) rfl rfl rfl rfl fun w hm => ?_
        exact hm.meetsB (S := endSp s N gs gm F w1 r f) (c, _, _) ⟨hc, hset⟩ [0, 1, 2] (by decide) rfl
end Go.Proofs.YtkcnoompimohnaaDoor.eng

/- ClassP -/
namespace Go.Proofs.YtkcnoompimohnaaDoor.classL
def one (x : C4) : List C4 := if x = C4.zero then [] else [x]
/-- what holds of parts -/
structure Parts (S : List C4) (all : List C4) : Prop where
  some : ∀ x ∈ all, x ≠ C4.zero
  apart : all.Pairwise fun x y => x.meet y = C4.zero
  sum : (all.map cnt).sum = 256
  whole : ∀ n, n < 256 → ∃ x ∈ all, x.mem n = true
  each : ∀ c ∈ S, ∀ x ∈ all, x.meet c = x ∨ x.meet c = C4.zero
  told : all.Pairwise fun x y => ∃ c ∈ S, decide (x.meet c = x) ≠ decide (y.meet c = y)
theorem zero_iff {x : C4} : x = C4.zero ↔ ∀ n, n < 256 → x.mem n = false :=
  ⟨fun h n _ => by rw [h, zero_mem], fun h => ext_mem fun n hn => by rw [h n hn, zero_mem]⟩
theorem cnt_zero {x : C4} (h : cnt x = 0) : x = C4.zero := by
  have : bytesL x = [] := List.eq_nil_of_length_eq_zero h
  refine zero_iff.2 fun n hn => ?_
  cases e : x.mem n with
  | false => rfl
  | true => exact absurd (mem_bytes.2 ⟨hn, e⟩) (by rw [this]; simp)
theorem sum_len : ∀ all : List C4, (∀ x ∈ all, x ≠ C4.zero) → all.length ≤ (all.map cnt).sum
  | [], _ => Nat.le_refl _
  | x :: all, h => by
    have ih := sum_len all fun y hy => h y (by simp [hy])
    have : cnt x ≠ 0 := fun e => h x (by simp) (cnt_zero e)
    simp only [List.length_cons, List.map_cons, List.sum_cons]
    omega
theorem Parts.len {S all : List C4} (h : Parts S all) : all.length ≤ 256 := by
  have := sum_len all h.some
  rw [h.sum] at this
  exact this
theorem Parts.more {S S' all : List C4} (h : Parts S all) (h1 : ∀ c, c ∈ S' → c ∈ S) (h2 : ∀ c, c ∈ S → c ∈ S') : Parts S' all :=
  ⟨h.some, h.apart, h.sum, h.whole, fun c hc => h.each c (h1 c hc), h.told.imp fun ⟨c, hc, h⟩ => ⟨c, h2 c hc, h⟩⟩
end Go.Proofs.YtkcnoompimohnaaDoor.classL

/- RexP -/
namespace Go.Proofs.YtkcnoompimohnaaDoor.eng
open Go.RowKit kit mix classL rexL classSets
theorem emb_inj : ∀ {a b : Re}, emb a = emb b → a = b := by
  intro a
  induction a with
  | none => intro b h; cases b <;> simp [emb] at h ⊢
  | empty => intro b h; cases b <;> simp [emb] at h ⊢
  | byte c => intro b h; cases b <;> simp [emb] at h ⊢; exact h
  | cat x y ihx ihy =>
    intro b h
    cases b <;> simp [emb] at h ⊢
    exact ⟨ihx h.1, ihy h.2⟩
  | alt x y ihx ihy =>
    intro b h
    cases b <;> simp [emb] at h ⊢
    exact ⟨ihx h.1, ihy h.2⟩
  | star x ih =>
    intro b h
    cases b <;> simp [emb] at h ⊢
    exact ih h
def LangX (r : Rx) (s : List UInt8) : Prop := ∃ e, r = emb e ∧ Lang e s
theorem langX (e : Re) (s : List UInt8) : LangX (emb e) s ↔ Lang e s := ⟨fun ⟨e', h, h2⟩ => by rw [emb_inj h]; exact h2, fun h => ⟨e, rfl, h⟩⟩
open Classical in
/-- what Matches says -/
noncomputable def matF (r : Rx) (s : List UInt8) : Bool × Int := if chkX r ≠ 0 then (false, chkX r) else if 200 < s.length then (false, 2) else (decide (LangX r s), 0)
theorem mat_bad1 {r : Rx} {s : List UInt8} (h : chkX r ≠ 0) : matF r s = (false, chkX r) := by unfold matF; rw [if_pos h]
theorem mat_bad2 {r : Rx} {s : List UInt8} (h : chkX r = 0) (h2 : 200 < s.length) : matF r s = (false, 2) := by unfold matF; rw [if_neg (by simpa using h), if_pos h2]
theorem mat_ok {r : Rx} {s : List UInt8} (h : chkX r = 0) (h2 : ¬ 200 < s.length) {b : Bool} (hb : b = true ↔ LangX r s) : matF r s = (b, 0) := by
  unfold matF
  rw [if_neg (by simpa using h), if_neg h2]
  congr 1
  apply Bool.eq_iff_iff.2
  rw [hb]; simp
theorem chkX_fit {r : Rx} (h : chkX r = 0) : ∃ e, r = emb e ∧ Fit e 1 0 := by
  obtain ⟨e, h1, h2, _⟩ := chk_fit _ r 1 0 (chk r 1 0).2 (Nat.le_refl _) (Prod.ext h rfl)
  exact ⟨e, h1, h2⟩
theorem fit_chkX {e : Re} (h : Fit e 1 0) : chkX (emb e) = 0 := by unfold chkX; rw [fit_chk e 1 0 h]
theorem mat_fit {e : Re} {s : List UInt8} (h : Fit e 1 0) (hs : s.length ≤ 200) : (matF (emb e) s).2 = 0 ∧ ((matF (emb e) s).1 = true ↔ Lang e s) := by
  unfold matF
  rw [if_neg (by simpa using fit_chkX h), if_neg (by omega)]
  refine ⟨rfl, ?_⟩
  rw [← langX]; simp
theorem build_spans (s : List UInt8) (g : Nat) (w : World) : (Instr.build 115 #[(0, str s), (1, .map (some g))]).run Tryd.prog w = .ok (.agg #[str s, .map (some g)]) w := by kernel_rfl
theorem wrapL8 {k : Nat} (h : k < 256) : IntKind.u8.wrap (k : Int) = (k : Int) := by
  rw [IntKind.wrap_u8]; omega
set_option maxRecDepth 100000 in
set_option maxHeartbeats 16000000 in
theorem matches_calls (v : Value) (r : Rx) (s : List UInt8) (w : World) (hT : TabW w) (hv : RexR (Low w) w v r) (hs : s.length ≤ 9223372036854775807) :
    Calls Tryd.prog 31 #[v, str s] w (Meets (ret (.tuple #[.bool (matF r s).1, .int .i64 (matF r s).2])) w) := by
  have hck := fun w' (hg : Gr w w') => rexCheck_calls v r w' (hv.gr hg)
  by_cases hc : chkX r = 0
  · obtain ⟨e, rfl, hfit⟩ := chkX_fit hc
    rw [hc] at hck
    rw [emb_eq] at hv
    obtain ⟨vk, rfl, hk64, hks⟩ := hv
    dsimp only [Rx.kind, Rx.cls, Rx.kids] at hk64 hks hck ⊢
    have hnum := fun gn w' B ho hm => number_calls w gn _ e (Nat.le_refl _) vk 0 w' B hk64 hks (by have := hfit.sz; omega) ho hm
    obtain ⟨bk, ck, rfl, -⟩ := hks
    rw [List.length_map] at hck hnum ⊢
    by_cases hl : 200 < s.length
    · rw [mat_bad2 hc hl]
      refine enter (args := [rexV e.kind e.cls (.slice bk e.kids.length ck), str s]) (n := 29) Tryd.func31 rfl rfl rfl ?_
      refine T_seq (T_region (TL_box rfl rfl rfl fun g2 => ?_))
      repeat (first
        | refine QV QP ?_ | refine QZ ?_ | refine qcT rfl ?_ | refine qcF rfl ?_ | refine QV (rr_loadB (i := 0) TyC.ty rfl rfl rfl) ?_ | refine QV QS ?_
        | refine QV QgT ?_ | refine QV QgF ?_ | refine QV QnT ?_ | refine QV QnF ?_)
      refine TL_call (he1 EntersC.en rfl rfl) (fun w hm => hck _ hm.below) rfl rfl rfl ?_
      intro _ _
      repeat (first
        | refine QV QP ?_ | refine QZ ?_ | refine qcT rfl ?_ | refine qcF rfl ?_ | refine QV QS ?_ | refine QV QS ?_ | refine QV QgT ?_ | refine QV QgF ?_
        | refine QV QnT ?_ | refine QV QnF ?_)
      exact E_ret2 rfl rfl rfl fun w hm => hm.ret
    · have hsz := hfit.sz
      have hends := fun gs gm F w1 v' hn => ends_calls w hT s (by omega) (nodeAt e 0) gs gm F w1 _ e (Nat.le_refl _) 0 (numC e 0 (.slice bk e.kids.length ck) v') hn (fun i _ _ => rfl) (by omega)
      have hbs := build_spans s
      have hh := fun c w => has_calls c s.length (by omega) w
      clear hk64
      refine enter (args := [rexV e.kind e.cls (.slice bk e.kids.length ck), str s]) (n := 29) Tryd.func31 rfl rfl rfl ?_
      refine T_seq (T_region (TL_box rfl rfl rfl fun g2 => ?_))
      repeat (first
        | refine QV QP ?_ | refine QZ ?_ | refine qcT rfl ?_ | refine qcF rfl ?_ | refine QV (rr_loadB (i := 0) TyC.ty rfl rfl rfl) ?_ | refine QV QS ?_
        | refine QV QgT ?_ | refine QV QgF ?_ | refine QV QnT ?_ | refine QV QnF ?_)
      refine TL_call (he1 EntersC.en rfl rfl) (fun w hm => hck _ hm.below) rfl rfl rfl ?_
      intro _ _
      repeat (first
        | refine QV QP ?_ | refine QZ ?_ | refine qcT rfl ?_ | refine qcF rfl ?_ | refine QV QS ?_ | refine QV QS ?_ | refine QV QgT ?_ | refine QV QgF ?_
        | refine QV QnT ?_ | refine QV QnF ?_)
      refine TL_new rfl fun g7 => ?_
      conv => arg 8; simp only [zA, zB, zC, zD, zE, zF, zG, zH, zI, rowS, ret, id_eq]
      refine TL_store1 (i := 1) rfl rfl rfl rfl rfl rfl ?_
      conv => arg 8; simp only [zA, zB, zC, zD, zE, zF, zG, zH, zI, rowS, ret, id_eq]
      repeat (first
        | refine QV QP ?_ | refine QZ ?_ | refine qcT rfl ?_ | refine qcF rfl ?_ | refine QV QS ?_ | refine QV QgT ?_ | refine QV QgF ?_ | refine QV QnT ?_
        | refine QV QnF ?_)
      refine TL_map atK rfl fun gm => ?_
      conv => arg 8; simp only [zA, zB, zC, zD, zE, zF, zG, zH, zI, rowS, ret, id_eq]
      repeat (first
        | refine QV QP ?_ | refine QZ ?_ | refine qcT rfl ?_ | refine qcF rfl ?_ | refine QV (rr_build rfl (hbs gm)) ?_ | refine QV QS ?_ | refine QV QgT ?_
        | refine QV QgF ?_ | refine QV QnT ?_ | refine QV QnF ?_)
      refine TL_box rfl rfl rfl fun gs => ?_
      conv => arg 8; simp only [zA, zB, zC, zD, zE, zF, zG, zH, zI, rowS, ret, id_eq]
      repeat (first
        | refine QV QP ?_ | refine QZ ?_ | refine qcT rfl ?_ | refine qcF rfl ?_ | refine QV (rr_loadB (i := 0) TyC.ty rfl rfl rfl) ?_ | refine QV QS ?_
        | refine QV QgT ?_ | refine QV QgF ?_ | refine QV QnT ?_ | refine QV QnF ?_)
      refine TL_callB [1] [0, 2, 3] (by decide) rfl rfl (he2 EntersC.en rfl rfl rfl) (fun w hm hb => hnum g7 w _ ((Old.self _).on hm (by intro o ho; simp at ho ⊢; simp [ho])) hb) rfl rfl rfl ?_
      rintro ⟨v', F⟩ _
      conv => arg 8; simp only [zA, zB, zC, zD, zE, zF, zG, zH, zI, rowS, ret, id_eq, numSp]
      refine TL_freeze (i := 4) F rfl (fun k hk => .inr hk) fun w1 hw1 => ?_
      conv => arg 8; simp only [zA, zB, zC, zD, zE, zF, zG, zH, zI, rowS, ret, id_eq]
      have hnum' : NumIs F w1 (numC e 0 (.slice bk e.kids.length ck) v') (e, 0) := by
        obtain ⟨⟨v'', hv', h5⟩, _⟩ := hw1
        simp only [List.cons.injEq, and_true] at hv'
        subst hv'
        exact num_iff.2 ⟨_, _, rfl, rfl, h5⟩
      refine TL_callB [2, 1, 4] [0, 3] (by decide) rfl rfl (he3 EntersC.en rfl rfl rfl rfl) (fun w hm hb => hends gs gm F w1 v' hnum' 0 (fun _ => none) 0 w _ (Nat.zero_le _) (mok0 s _) ((Old.self _).on hm (by intro o ho; simp [spO, mO] at ho ⊢; rcases ho with h | h | h <;> simp [h])) hb) rfl rfl rfl ?_
      rintro ⟨c, m', n'⟩ ⟨hc', _⟩
      dsimp only [endSp]
      refine TL_pick [] (by decide) rfl ?_
      have hres : matF (emb e) s = (c.mem s.length, 0) := by
        refine mat_ok hc hl ?_
        rw [langX, hc' s.length (by omega)]
        unfold EndP
        rw [seg_all]
        simp
      rw [hres]
      repeat (first
        | refine QV QP ?_ | refine QZ ?_ | refine qcT rfl ?_ | refine qcF rfl ?_ | refine QV QS ?_ | refine QV (rr_conv Und.eq Und.eq rfl (wrapL8 (by omega))) ?_
        | refine QV QS ?_ | refine QV QgT ?_ | refine QV QgF ?_ | refine QV QnT ?_ | refine QV QnF ?_)
      refine TL_call (he2 EntersC.en rfl rfl rfl) (fun w hm => hh c _) rfl rfl rfl ?_
      intro _ _
      repeat (first
        | refine QV QP ?_ | refine QZ ?_ | refine qcT rfl ?_ | refine qcF rfl ?_ | refine QV QS ?_ | refine QV QgT ?_ | refine QV QgF ?_ | refine QV QnT ?_
        | refine QV QnF ?_)
      exact E_ret2 rfl rfl rfl fun w hm => hm.ret
  · rw [mat_bad1 hc]
    obtain ⟨vk, rfl, _, hks⟩ := hv
    obtain ⟨bk, ck, rfl, -⟩ := hks
    generalize r.kids.length = m at *
    generalize chkX r = z at *
    refine enter (args := [rexV r.kind r.cls (.slice bk m ck), str s]) (n := 29) Tryd.func31 rfl rfl rfl ?_
    refine T_seq (T_region (TL_box rfl rfl rfl fun g2 => ?_))
    repeat (first
      | refine QV QP ?_ | refine QZ ?_ | refine qcT rfl ?_ | refine qcF rfl ?_ | refine QV (rr_loadB (i := 0) TyC.ty rfl rfl rfl) ?_ | refine QV QS ?_
      | refine QV QgT ?_ | refine QV QgF ?_ | refine QV QnT ?_ | refine QV QnF ?_)
    refine TL_call (he1 EntersC.en rfl rfl) (fun w hm => hck _ hm.below) rfl rfl rfl ?_
    intro _ _
    repeat (first
      | refine QV QP ?_ | refine QZ ?_ | refine qcT rfl ?_ | refine qcF rfl ?_ | refine QV (rr_neq (b := true) rfl rfl (decide_eq_true hc)) ?_
      | refine QV QS ?_ | refine QV QgT ?_ | refine QV QgF ?_ | refine QV QnT ?_ | refine QV QnF ?_)
    exact E_ret2 rfl rfl rfl fun w hm => hm.ret
/-- what is says -/
noncomputable def isF (r : Rx) (s : List UInt8) : Bool × Bool := ((matF r s).1, decide ((matF r s).2 ≠ 0))
theorem is_calls (v : Value) (r : Rx) (s : List UInt8) (w : World) (hT : TabW w) (hv : RexR (Low w) w v r) (hs : s.length ≤ 9223372036854775807) :
    Calls Tryd.prog 17 #[v, str s] w (Meets (ret (.tuple #[.bool (isF r s).1, .bool (isF r s).2])) w) := by
  have hM := fun w' (hg : Gr w w') hT' => matches_calls v r s w' hT' (hv.gr hg) hs
  obtain ⟨vk, rfl, _, hks⟩ := hv
  obtain ⟨bk, ck, rfl, -⟩ := hks
  unfold isF
  generalize matF r s = z at *
  obtain ⟨b, e⟩ := z
  dsimp only at hM ⊢
  generalize r.kids.length = m at *
  refine enter (args := [rexV r.kind r.cls (.slice bk m ck), str s]) (n := 17) Tryd.func17 rfl rfl rfl ?_
  refine T_seq (T_region (TL_box rfl rfl rfl fun g2 => ?_))
  repeat (first
    | refine QV QP ?_ | refine QZ ?_ | refine QV (rr_loadB (i := 0) TyC.ty rfl rfl rfl) ?_ | refine QV QnT ?_ | refine QV QnF ?_)
  refine TL_call (he2 EntersC.en rfl rfl rfl) (fun w hm => hM _ hm.below (hT.up hm)) rfl rfl rfl ?_
  intro _ _
  repeat (first
    | refine QV QP ?_ | refine QZ ?_ | refine QV (rr_neq (b := decide (e ≠ 0)) rfl rfl rfl) ?_ | refine QV QnT ?_ | refine QV QnF ?_)
  exact E_ret2 rfl rfl rfl fun w hm => hm.ret
end Go.Proofs.YtkcnoompimohnaaDoor.eng

/- SmO -/
namespace Go.Proofs.YtkcnoompimohnaaDoor.eng
open Go.RowKit kit mix dfaL smallL
def rowC (r : Row) : List Value := r.toList.map (.int .i16)
theorem rowC_len (r : Row) : (rowC r).length = 256 := by simp [rowC]
theorem rowC_get (r : Row) {b : Nat} (hb : b < 256) : (rowC r)[b]? = some (.int .i16 r[b]) := by
  unfold rowC
  rw [List.getElem?_map, List.getElem?_eq_getElem (by simpa using hb), Vector.getElem_toList]; rfl
theorem row_one (l : List Row) : ∀ u ∈ l.flatMap rowC, u.oneCell' = true := by
  intro u hu
  obtain ⟨x, _, h⟩ := List.mem_flatMap.1 hu
  obtain ⟨n, _, rfl⟩ := List.mem_map.1 h
  rfl
theorem row_one1 (r : Row) : (rowC r).all Value.oneCell' = true := List.all_eq_true.2 fun u hu => row_one [r] u (by simpa using hu)
def dfaV (vr vt : Value) : Value := .agg #[vr, vt]
def row0 : Row := Vector.replicate 256 0
/-- an automaton that can be read -/
structure DfaM (w : World) (vr vt : Value) (R : List Row) (tags : List Int) : Prop where
  hR : Sl w vr R.length (R.flatMap rowC)
  hT : Sl w vt tags.length (tags.flatMap kit.intC)
  rng : ∀ r ∈ R, ∀ x ∈ r.toList, -32768 ≤ x ∧ x ≤ 32767
  okT : ∀ x ∈ tags, kit.okI64 x
theorem DfaM.gr {w w' : World} {vr vt : Value} {R : List Row} {tags : List Int} (h : DfaM w vr vt R tags) (hg : Gr w w') : DfaM w' vr vt R tags := ⟨h.hR.gr hg, h.hT.gr hg, h.rng, h.okT⟩
theorem DfaM.isDfa {w : World} {vr vt : Value} {R : List Row} {tags : List Int} (h : DfaM w vr vt R tags) : IsDfa w (dfaV vr vt) (R.map Vector.toList) tags := by
  refine ⟨vr, vt, rfl, ?_, ?_, fun r hr => by obtain ⟨x, _, rfl⟩ := List.mem_map.1 hr; simp⟩
  · obtain ⟨base, cap, h1, h2, h3, h4⟩ := h.hR
    refine ⟨base, cap, by rw [List.length_map]; exact h1, by rw [List.length_map]; exact h2, h3, fun h0 => ?_⟩
    rw [List.length_map] at h0
    obtain ⟨b, off, h5, h6⟩ := h4 h0
    refine ⟨b, off, h5, fun i hi => ?_⟩
    have hi' : i < R.length := by simpa using hi
    refine ⟨rowC R[i], ⟨by simp, by simp [rowC], fun x hx => h.rng R[i] (List.getElem_mem hi') x (by simpa using hx)⟩, fun j u hj => ?_⟩
    have hjl : j < 256 := by have := (List.getElem?_eq_some_iff.1 hj).1; rwa [rowC_len] at this
    have := h6 (i * 256 + j) u (by rw [get_el rowC_len R i j hi' hjl]; exact hj)
    rw [Nat.add_assoc]; exact this
  · obtain ⟨base, cap, h1, h2, h3, h4⟩ := h.hT
    refine ⟨base, cap, h1, h2, h3, fun h0 => ?_⟩
    obtain ⟨b, off, h5, h6⟩ := h4 h0
    refine ⟨b, off, h5, fun i hi => ⟨[.int .i64 tags[i]], ⟨rfl, h.okT _ (List.getElem_mem hi)⟩, fun j u hj => ?_⟩⟩
    have hj0 : j = 0 := by have := (List.getElem?_eq_some_iff.1 hj).1; simpa using this
    subst hj0
    rw [Nat.mul_one, Nat.add_zero]
    refine h6 i u ?_
    rw [show tags.flatMap kit.intC = tags.map (.int .i64) from kit.flat1 tags, List.getElem?_map, List.getElem?_eq_getElem hi]
    exact hj
/-- the automaton that is meant -/
def aut (R : List Row) (tags : List Int) : Aut := ⟨R.length, fun i b => (R.getD i row0).toList.getD b 0, fun i => tags.getD i 0⟩
def chk (R : List Row) (tags : List Int) : Int := checkF (R.map Vector.toList) tags
theorem rows_getD (R : List Row) {i : Nat} (hi : i < R.length) : (R.map Vector.toList).getD i [] = (R.getD i row0).toList := by
  rw [List.getD_eq_getElem?_getD, List.getElem?_map, List.getD_eq_getElem?_getD, List.getElem?_eq_getElem hi]; rfl
theorem chk_ok {R : List Row} {tags : List Int} (h : chk R tags = 0) : (aut R tags).Ok ∧ tags.length = R.length := by
  obtain ⟨h1, h2, h3, h4⟩ := check_ok h
  rw [List.length_map] at h1 h2 h3 h4
  refine ⟨⟨h2, h1, fun i hi b hb => ?_, fun i hi => ?_⟩, h3⟩
  · have := (h4 i hi).2.2
    rw [rows_getD R hi] at this
    refine this _ ?_
    show (R.getD i row0).toList.getD b 0 ∈ _
    rw [List.getD_eq_getElem?_getD (l := (R.getD i row0).toList), List.getElem?_eq_getElem (by simpa using hb)]
    exact List.getElem_mem _
  · have := h4 i hi
    exact ⟨this.1, this.2.1⟩
theorem ok_chk {R : List Row} {tags : List Int} (h : (aut R tags).Ok) (hl : tags.length = R.length) : chk R tags = 0 := by
  have h1 : R.length ≤ 200 := h.le
  have h2 : 0 < R.length := h.pos
  unfold chk checkF
  rw [List.length_map, if_neg (by omega), if_neg (by omega), if_neg]
  simp only [List.any_eq_true, List.mem_range, not_exists, not_and]
  intro i hi
  have ht := h.tags i hi
  have hs := h.step i hi
  rw [rows_getD R hi]
  simp only [rowBad, Bool.or_eq_true, decide_eq_true_eq, List.any_eq_true, not_or, not_exists, not_and]
  refine ⟨⟨?_, ?_⟩, fun t ht' => ?_⟩
  · show ¬ tags.getD i 0 < -1
    have : -1 ≤ tags.getD i 0 := ht.1
    omega
  · have : tags.getD i 0 < 20 := ht.2
    omega
  · obtain ⟨b, hb, rfl⟩ := List.mem_iff_getElem.1 ht'
    have hb' : b < 256 := by simpa using hb
    have := hs b hb'
    have e : (aut R tags).d i b = (R.getD i row0).toList[b] := by
      show (R.getD i row0).toList.getD b 0 = _
      rw [List.getD_eq_getElem?_getD (l := (R.getD i row0).toList), List.getElem?_eq_getElem hb]; rfl
    rw [e] at this
    have e2 : (aut R tags).n = R.length := rfl
    omega
theorem st_zero {A : Aut} (hA : A.Ok) : St A 0 := ⟨by decide, by have := hA.pos; show (0 : Int) < A.n; omega⟩
/-- what dfa.Tag says -/
def tagF (R : List Row) (tags : List Int) (s : List UInt8) : Int × Int := if chk R tags = 0 then (tg (aut R tags) (go (aut R tags) 0 s), 0) else (0, chk R tags)
end Go.Proofs.YtkcnoompimohnaaDoor.eng

/- SmT -/
namespace Go.Proofs.YtkcnoompimohnaaDoor.eng
open Go.RowKit kit mix dfaL smallL
theorem aut_tag {R : List Row} {tags : List Int} {i : Nat} (h : i < tags.length) : (aut R tags).tag i = tags[i] := by
  show tags.getD i 0 = _
  rw [List.getD_eq_getElem?_getD, List.getElem?_eq_getElem h]; rfl
theorem aut_d {R : List Row} {tags : List Int} {i b : Nat} (h : i < R.length) (hb : b < 256) : (aut R tags).d i b = (R[i])[b] := by
  show (R.getD i row0).toList.getD b 0 = _
  rw [List.getD_eq_getElem?_getD (l := R), List.getElem?_eq_getElem h, Option.getD_some, List.getD_eq_getElem?_getD, List.getElem?_eq_getElem (by simpa using hb), Option.getD_some, Vector.getElem_toList]
/-- a row's block, one cell being written over -/
theorem row_set (r : Row) {b : Nat} (hb : b < 256) (x : Int) : (rowC r).toArray.setIfInBounds b (.int .i16 x) = (rowC (r.set b x)).toArray := by
  unfold rowC
  rw [Vector.toList_set, List.map_set]; simp
theorem TL_storeV {P : Program} {n : Nat} {W : Base} {fr : Fr} {L : List Own} {Q : Exit → Act → World → Prop} {ops : Array Oper} {rest : List Oper} {ty : TypeId} {pos : String} {after : Array Edge} {t : TypeId} {p x : Operand} {i g b : Nat} {r : Row} {T : TypeId} {agg : Bool} {z : Int} [hT : TyC P t agg 1] (hi : L[i]? = some (blkO g (rowC r).toArray T)) (hp : ev fr p = some (.pointer (some ⟨g, 0 + b, none⟩))) (hx : ev fr x = some (.int .i16 z)) (hb : b < 256)
    (h : TL P n W ops Q rest fr (L.set i (blkO g (rowC (r.set b z)).toArray T))) : TL P n W ops Q (⟨none, .store t p x, ty, pos, after, none⟩ :: rest) fr L := by
  rw [Nat.zero_add] at hp
  refine TL_store1 hi hp hx rfl rfl ?_ ?_
  · rw [List.size_toArray, rowC_len]; exact Nat.blt_eq ▸ hb
  · rw [row_set r hb]; exact h
/-- the first b cells are x, the others 0 -/
def fillR (x y : Int) (b : Nat) : Row := Vector.ofFn fun i : Fin 256 => if i < b then x else y
theorem fillR_set (x y : Int) (b : Nat) (hb : b < 256) : (fillR x y b).set b x = fillR x y (b + 1) := by
  refine Vector.ext fun i hi => ?_
  unfold fillR
  rw [Vector.getElem_set, Vector.getElem_ofFn, Vector.getElem_ofFn]
  split
  · rename_i e; subst e; simp
  · have : i < b ↔ i < b + 1 := by omega
    simp only [this]
theorem fillR_0 (x y : Int) : fillR x y 0 = Vector.replicate 256 y := by
  refine Vector.ext fun i hi => ?_
  unfold fillR; simp
theorem fillR_all (x y : Int) : fillR x y 256 = Vector.replicate 256 x := by
  refine Vector.ext fun i hi => ?_
  unfold fillR; simp [hi]
theorem zero_row : (List.replicate 256 (Value.int .i16 0)).toArray = (rowC (Vector.replicate 256 0)).toArray := by
  unfold rowC
  rw [Vector.toList_replicate, List.map_replicate]
def rowV (r : Row) : Value := .agg (rowC r).toArray
set_option maxHeartbeats 2000000 in
theorem smAll_calls (x : Int) (w : World) : Calls Tryd.prog 24 #[.int .i16 x] w (Meets (ret (rowV (Vector.replicate 256 x))) w) := by
  refine enter (args := [.int .i16 x]) (n := 13) Tryd.func24 rfl rfl rfl ?_
  refine T_seq (T_region (TL_new rfl fun g => ?_))
  repeat (first
    | refine QV QP ?_ | refine QZ ?_ | refine qcT rfl ?_ | refine qcF rfl ?_ | refine E_blockX ?_ | refine E_blockO rfl ?_ | refine QV QlT ?_
    | refine QV QlF ?_ | refine QV QaA ?_)
  refine TL_new rfl fun g3 => ?_
  conv => arg 8; simp only [zA, zB, zC, zD, zE, zF, zG, zH, zI, rowS, ret, id_eq]
  rw [zero_row]
  repeat (first
    | refine QV QP ?_ | refine QZ ?_ | refine qcT rfl ?_ | refine qcF rfl ?_ | refine E_blockX ?_ | refine E_blockO rfl ?_ | refine QV QlT ?_
    | refine QV QlF ?_ | refine QV QaA ?_)
  rw [← fillR_0 x 0]
  refine T_loop (ι := Nat) (fun b => b ≤ 256) (fun b => [(0, .int .i16 x), (2, .pointer (some ⟨g, 0, none⟩)), (3, .pointer (some ⟨g3, 0, none⟩)), (5, .int .i64 (b : Int))]) (fun b => [blkO g (rowC (fillR x 0 0)).toArray 73, blkO g3 (rowC (fillR x 0 b)).toArray 73]) (fun b => 256 - b) 0 (Nat.zero_le _) (by repeat' (first | exact True.intro | refine And.intro rfl ?_)) rfl ?_
  intro b hb
  by_cases c : b < 256
  · repeat (first
      | refine QV QP ?_ | refine QZ ?_ | refine qcT rfl ?_ | refine qcF rfl ?_ | refine E_blockX ?_ | refine E_blockO rfl ?_
      | refine QV (rr_aidx1 Und.eq TyC.ty rfl rfl c) ?_ | refine QV QlT ?_ | refine QV QlF ?_ | refine QV QaA ?_)
    refine TL_storeV (i := 1) rfl rfl rfl c ?_
    rw [fillR_set x 0 b c]
    conv => arg 8; simp only [zA, zB, zC, zD, zE, zF, zG, zH, zI, rowS, ret, id_eq]
    repeat (first
      | refine QV QP ?_ | refine QZ ?_ | refine qcT rfl ?_ | refine qcF rfl ?_ | refine E_blockX ?_ | refine E_blockO rfl ?_ | refine QV QlT ?_
      | refine QV QlF ?_ | refine QV QaA ?_)
    exact E_round (b + 1) (by omega) (by show 256 - (b + 1) < 256 - b; omega) (by repeat' (first | exact True.intro | refine And.intro rfl ?_)) rfl
  · obtain rfl : b = 256 := by omega
    rw [fillR_all]
    repeat (first
      | refine QV QP ?_ | refine QZ ?_ | refine qcT rfl ?_ | refine qcF rfl ?_ | refine E_blockX ?_ | refine E_blockO rfl ?_
      | refine QV (rr_loadB (i := 1) TyC.ty rfl rfl (by rw [List.size_toArray, rowC_len])) ?_ | refine QV QlT ?_ | refine QV QlF ?_ | refine QV QaA ?_)
    refine TL_storeB (i := 0) rfl rfl rfl (by rw [List.size_toArray, rowC_len]) (by have := row_one1 (Vector.replicate 256 x); simpa using this) (by rw [List.size_toArray, rowC_len]) ?_
    conv => arg 8; simp only [zA, zB, zC, zD, zE, zF, zG, zH, zI, rowS, ret, id_eq]
    repeat (first
      | refine QV QP ?_ | refine QZ ?_ | refine qcT rfl ?_ | refine qcF rfl ?_ | refine E_blockX ?_ | refine E_blockO rfl ?_ | refine QV QlT ?_
      | refine QV QlF ?_ | refine QV QaA ?_)
    exact E_retc1 (i := 0) rfl rfl rfl (by rw [List.size_toArray, rowC_len]) fun w hm => hm.ret
end Go.Proofs.YtkcnoompimohnaaDoor.eng

/- DfX -/
namespace Go.Proofs.YtkcnoompimohnaaDoor.eng
open Go.RowKit kit mix classL rexL placesL dfaP smallL
set_option maxRecDepth 100000 in
theorem eq_set (x y : C4) (w : World) : (Op.equalIn 10000 106 (.agg (clsL x).toArray) (.agg (clsL y).toArray)).run Tryd.prog w = .ok (decide (x = y)) w := by
  show (Op.equalIn 10000 106 (.agg #[v64 x.a, v64 x.b, v64 x.c, v64 x.d]) (.agg #[v64 y.a, v64 y.b, v64 y.c, v64 y.d])).run Tryd.prog w = _
  have e : (Op.equalIn 10000 106 (.agg #[v64 x.a, v64 x.b, v64 x.c, v64 x.d]) (.agg #[v64 y.a, v64 y.b, v64 y.c, v64 y.d])).run Tryd.prog w = .ok ((n64 x.a == n64 y.a) && ((n64 x.b == n64 y.b) && ((n64 x.c == n64 y.c) && (n64 x.d == n64 y.d)))) w := by
    unfold v64
    rw [run_equalIn_array (P := Tryd.prog) w 9999 (n := 4) (e := 29) _ _ rfl rfl]
    have h1 : Tryd.prog.cellsOf 29 = 1 := rfl
    simp [Op.eqItems, go_sem, List.range_succ_eq_map, h1]
    by_cases e1 : n64 x.a = n64 y.a <;> by_cases e2 : n64 x.b = n64 y.b <;> by_cases e3 : n64 x.c = n64 y.c <;> by_cases e4 : n64 x.d = n64 y.d <;> simp [e1, e2, e3, e4]
  rw [e]
  congr 1
  by_cases h : x = y
  · subst h; simp
  · rw [decide_eq_false h]
    by_cases e1 : n64 x.a = n64 y.a <;> by_cases e2 : n64 x.b = n64 y.b <;> by_cases e3 : n64 x.c = n64 y.c <;> by_cases e4 : n64 x.d = n64 y.d <;> simp [e1, e2, e3, e4]
    exact h (C4.ext' (n64_inj e1) (n64_inj e2) (n64_inj e3) (n64_inj e4))
theorem build_set0 (w : World) : (Instr.build 106 (#[] : Array (Nat × Value))).run Tryd.prog w = .ok (.agg (clsL C4.zero).toArray) w := by kernel_rfl
theorem wrap16d {x : Int} (h0 : -32768 ≤ x) (h1 : x ≤ 32767) : IntKind.i16.wrap x = x := by
  simp only [IntKind.wrap, IntKind.bits, IntKind.signed]
  simp
  omega
theorem row_oneA (r : Row) : (rowC r).toArray.toList.all Value.oneCell' = true := List.all_eq_true.2 fun u hu => row_one [r] u (by simpa using hu)
def rowSp (m : MS) (vc vr vf vfol vl ve rows : Value) (g gm n : Nat) (d : DM) : Spec (Value × Value) :=
  ⟨fun _ => True, fun _ => rowV (rowP m n d).1, fun x => dmL vc vr vf vfol vl ve rows g gm x.1 x.2 (rowP m n d).2⟩
theorem to_step (p : PS) (all : C4) (b i : Nat) : toTo p all b (i + 1) = if all.mem i = true ∧ (p.classes.getD i C4.zero).mem b = true then (toTo p all b i).bit i else toTo p all b i := rfl
theorem rowTo_step (p : PS) (all : C4) (f b : Nat) (r : Row) (d : DM) : rowTo p all (f + 1) b r d = if 200 < (cellF p all b r d).2.S.length + 1 then cellF p all b r d else rowTo p all f (b + 1) (cellF p all b r d).1 (cellF p all b r d).2 := rfl
theorem cellF_0 {p : PS} {all : C4} {b : Nat} {r : Row} {d : DM} (hb : b < 256) (h : toF p all b = C4.zero) : cellF p all b r d = (r.set b (-1), d) := by unfold cellF; rw [if_pos h, dif_pos hb]
theorem cellF_1 {p : PS} {all : C4} {b : Nat} {r : Row} {d : DM} (hb : b < 256) (h : toF p all b ≠ C4.zero) : cellF p all b r d = ((r.set b (-1)).set b ((stateF p d (toF p all b)).1 : Int), (stateF p d (toF p all b)).2) := by unfold cellF; rw [if_neg h, dif_pos hb]
set_option maxRecDepth 100000 in
set_option maxHeartbeats 8000000 in
theorem dfaRow_calls (m : MS) (vc vr vf vfol vl ve rows : Value) (d : DM) (g gm n : Nat) (vs vt : Value) (w0 : World) (hp : PosR w0 (.agg #[vc, vr, vf, vfol, vl, ve]) m) (h : MOkP m) (hd : DOk m.ps d) (hd2 : d.S.length + 1 ≤ 200) (hn : n ≤ d.S.length) (w : World) (B : Base) (ho : Old w0 B)
    (hm : Mem B (dmL vc vr vf vfol vl ve rows g gm vs vt d) w) :
    Calls Tryd.prog 30 #[.pointer (some ⟨g, 0, none⟩), .int .i64 (n : Int)] w (MeetsB (rowSp m vc vr vf vfol vl ve rows g gm n d) B) := by
  have hnx := fun w' (hg : Gr w0 w') h1 h2 => dfaNext_calls m vc vr vf vfol vl ve vs (.map (some gm)) rows vt d.S g n w' (hp.gr hg) h h1 h2 hn
  have hst := fun d' s vs' vt' h1 h2 w' B' ho' hm' => dfaState_calls m vc vr vf vfol vl ve rows d' s g gm vs' vt' w0 hp h h1 h2 w' B' ho' hm'
  obtain ⟨_, _, _, _, _, _, he, h1, -⟩ := hp
  simp only [Value.agg.injEq, Array.mk.injEq, List.cons.injEq, and_true] at he
  obtain ⟨rfl, rfl, rfl, rfl, rfl, rfl⟩ := he
  have hmf := h.few
  clear h
  obtain ⟨ac, cc, rfl, -, -, hrc⟩ := h1
  unfold rowSp rowP
  generalize nextF m d.S n = all at *
  obtain ⟨p, fi, em⟩ := m
  dsimp only at *
  unfold dmL at hm
  have hB0 := build_set0
  refine enterB hm (args := [.pointer (some ⟨g, 0, none⟩), .int .i64 (n : Int)]) (n := 60) Tryd.func30 rfl rfl rfl ?_
  clear hm
  refine T_seq (T_region (TL_new rfl fun g4 => ?_))
  conv => arg 8; simp only [zA, zB, zC, zD, zE, zF, zG, zH, zI, rowS, ret, id_eq]
  rw [zero_row]
  repeat (first
    | refine QV QP ?_ | refine QZ ?_ | refine qcT rfl ?_ | refine qcF rfl ?_ | refine E_blockX ?_ | refine E_blockO rfl ?_
    | refine qs rfl rfl rfl rfl rfl rfl ?_
    | ((try refine qg rfl rfl rfl ?_); first | refine QV QP ?_ | refine QV QL ?_ | refine QV QA ?_ | refine QV (rr_nilc rfl) ?_ | refine QV QlT ?_ | refine QV QlF ?_ | refine QV QgT ?_ | refine QV QgF ?_ | refine QV QaA ?_))
  refine TL_call (he2 EntersC.en rfl rfl rfl) (fun w hm => hnx w (ho.mem hm) (hm.get (i := 0) rfl) (Sl.of_own (hm.get (i := 1) rfl))) rfl rfl rfl ?_
  intro _ _
  conv => arg 8; simp only [zA, zB, zC, zD, zE, zF, zG, zH, zI, rowS, ret, id_eq]
  clear hnx
  repeat (first
    | refine QV QP ?_ | refine QZ ?_ | refine qcT rfl ?_ | refine qcF rfl ?_ | refine E_blockX ?_ | refine E_blockO rfl ?_
    | refine qs rfl rfl rfl rfl rfl rfl ?_
    | ((try refine qg rfl rfl rfl ?_); first | refine QV QP ?_ | refine QV QL ?_ | refine QV QA ?_ | refine QV (rr_nilc rfl) ?_ | refine QV QlT ?_ | refine QV QlF ?_ | refine QV QgT ?_ | refine QV QgF ?_ | refine QV QaA ?_))
  refine TL_new rfl fun g5 => ?_
  conv => arg 8; simp only [zA, zB, zC, zD, zE, zF, zG, zH, zI, rowS, ret, id_eq]
  refine TL_storeB (i := 5) (cs' := (clsL all).toArray) rfl rfl rfl rfl rfl rfl ?_
  conv => arg 8; simp only [zA, zB, zC, zD, zE, zF, zG, zH, zI, rowS, ret, id_eq]
  repeat (first
    | refine QV QP ?_ | refine QZ ?_ | refine qcT rfl ?_ | refine qcF rfl ?_ | refine E_blockX ?_ | refine E_blockO rfl ?_
    | refine qs rfl rfl rfl rfl rfl rfl ?_
    | ((try refine qg rfl rfl rfl ?_); first | refine QV QP ?_ | refine QV QL ?_ | refine QV QA ?_ | refine QV (rr_nilc rfl) ?_ | refine QV QlT ?_ | refine QV QlF ?_ | refine QV QgT ?_ | refine QV QgF ?_ | refine QV QaA ?_))
  refine TL_new rfl fun g6 => ?_
  conv => arg 8; simp only [zA, zB, zC, zD, zE, zF, zG, zH, zI, rowS, ret, id_eq]
  rw [zero_row]
  repeat (first
    | refine QV QP ?_ | refine QZ ?_ | refine qcT rfl ?_ | refine qcF rfl ?_ | refine E_blockX ?_ | refine E_blockO rfl ?_
    | refine qs rfl rfl rfl rfl rfl rfl ?_
    | ((try refine qg rfl rfl rfl ?_); first | refine QV QP ?_ | refine QV QL ?_ | refine QV QA ?_ | refine QV (rr_nilc rfl) ?_ | refine QV QlT ?_ | refine QV QlF ?_ | refine QV QgT ?_ | refine QV QgF ?_ | refine QV QaA ?_))
  clear hn
  generalize hfin : rowTo p all 256 0 (Vector.replicate 256 0) d = fin
  refine T_loop (ι := Nat × Row × DM × Value × Value) (fun (b, r, d, _, _) => b ≤ 256 ∧ DOk p d ∧ d.S.length + 1 ≤ 200 ∧ rowTo p all (256 - b) b r d = fin) (fun (b, _, _, _, _) => [(0, .pointer (some ⟨g, 0, none⟩)), (4, .pointer (some ⟨g4, 0, none⟩)), (5, .pointer (some ⟨g5, 0, none⟩)), (6, .pointer (some ⟨g6, 0, none⟩)), (14, .int .i64 (b : Int))])
    (fun (_, r, d, vs, vt) => [blkO g (dmC (.slice ac p.classes.length cc) vr vf vfol vl ve vs (.map (some gm)) rows vt) 92, setsO vs d.S, numO gm d.S, intR vt d.tags, blkO g4 (rowC (Vector.replicate 256 0)).toArray 73, blkO g5 (clsL all).toArray 106, blkO g6 (rowC r).toArray 73]) (fun (b, _, _, _, _) => 256 - b) (0, Vector.replicate 256 0, d, vs, vt) ⟨Nat.zero_le _, hd, hd2, hfin⟩ (by repeat' (first | exact True.intro | refine And.intro rfl ?_)) rfl ?_
  clear hd hd2 hfin d vs vt
  rintro ⟨b, r, d, vs, vt⟩ ⟨i1, i2, i3, i4⟩
  dsimp only at i1 i2 i3 i4 ⊢
  by_cases c1 : b < 256
  · rw [show 256 - b = (256 - (b + 1)) + 1 by omega, rowTo_step] at i4
    repeat (first
      | refine QV QP ?_ | refine QZ ?_ | refine qcT rfl ?_ | refine qcF rfl ?_ | refine E_blockX ?_ | refine E_blockO rfl ?_
      | refine qs rfl rfl rfl rfl rfl rfl ?_
      | ((try refine qg rfl rfl rfl ?_); first | refine QV QP ?_ | refine QV QL ?_ | refine QV QA ?_ | refine QV (rr_nilc rfl) ?_ | refine QV QlT ?_ | refine QV QlF ?_ | refine QV QgT ?_ | refine QV QgF ?_ | refine QV QaA ?_))
    refine TL_new rfl fun g8 => ?_
    conv => arg 8; simp only [zA, zB, zC, zD, zE, zF, zG, zH, zI, rowS, ret, id_eq]
    repeat (first
      | refine QV QP ?_ | refine QZ ?_ | refine qcT rfl ?_ | refine qcF rfl ?_ | refine E_blockX ?_ | refine E_blockO rfl ?_
      | refine qs rfl rfl rfl rfl rfl rfl ?_
      | ((try refine qg rfl rfl rfl ?_); first | refine QV QP ?_ | refine QV (rr_nilc rfl) ?_ | refine QV (rr_load1 (v := .slice ac p.classes.length cc) TyC.ty rfl (at_blk (i := 0) rfl rfl)) ?_ | refine QV QL ?_ | refine QV QA ?_ | refine QV (rr_nilc rfl) ?_ | refine QV QlT ?_ | refine QV QlF ?_ | refine QV QgT ?_ | refine QV QgF ?_ | refine QV QaA ?_))
    refine T_loop (ι := Nat) (fun k => k ≤ p.classes.length) (fun k => [(0, .pointer (some ⟨g, 0, none⟩)), (4, .pointer (some ⟨g4, 0, none⟩)), (5, .pointer (some ⟨g5, 0, none⟩)), (6, .pointer (some ⟨g6, 0, none⟩)), (7, .int .i64 (b : Int)), (8, .pointer (some ⟨g8, 0, none⟩)), (14, .int .i64 (b : Int)), (21, .slice ac p.classes.length cc), (22, .int .i64 p.classes.length), (23, .int .i64 (k : Int))])
      (fun k => [blkO g (dmC (.slice ac p.classes.length cc) vr vf vfol vl ve vs (.map (some gm)) rows vt) 92, setsO vs d.S, numO gm d.S, intR vt d.tags, blkO g4 (rowC (Vector.replicate 256 0)).toArray 73, blkO g5 (clsL all).toArray 106, blkO g6 (rowC r).toArray 73, blkO g8 (clsL (toTo p all b k)).toArray 106]) (fun k => p.classes.length - k) 0 (Nat.zero_le _) (by repeat' (first | exact True.intro | refine And.intro rfl ?_)) rfl ?_
    intro k hk
    by_cases c2 : k < p.classes.length
    · have hts := to_step p all b k
      have hgd : p.classes.getD k C4.zero = p.classes[k] := by rw [List.getD_eq_getElem?_getD, List.getElem?_eq_getElem c2]; rfl
      rw [hgd] at hts
      obtain ⟨bc, offc, rfl, hrcd⟩ := hrc (by omega)
      have hatc := fun (L : List Own) => at_elO (L := L) (f := clsL) (c := 4) (fun _ => rfl) ho hrcd c2
      clear hrcd hrc hgd
      generalize p.classes[k] = c at *
      have hatc' : ∀ (L : List Own) (j : Nat) (u : Value), (clsL c)[j]? = some u → At B L ⟨bc, offc + k * 4 + j, none⟩ u := hatc
      clear hatc
      have hhas := fun w => setHas_calls all k (by omega) w
      have hchs := fun w => has_calls c b c1 w
      generalize toTo p all b k = tz at *
      generalize all.mem k = b1 at *
      generalize c.mem b = b2 at *
      have hu8 : IntKind.u8.wrap (b : Int) = (b : Int) := by rw [IntKind.wrap_u8]; omega
      repeat (first
        | refine QV QP ?_ | refine QZ ?_ | refine qcT rfl ?_ | refine qcF rfl ?_ | refine E_blockX ?_ | refine E_blockO rfl ?_
        | refine qs rfl rfl rfl rfl rfl rfl ?_
        | ((try refine qg rfl rfl rfl ?_); first | refine QV QP ?_ | refine QV (rr_idxc Und.eq TyC.ty rfl rfl c2) ?_ | refine QV (rr_loadN (cs := clsL c) TyC.ty rfl rfl (hatc' _)) ?_ | refine QV QL ?_ | refine QV QA ?_ | refine QV (rr_nilc rfl) ?_ | refine QV QlT ?_ | refine QV QlF ?_ | refine QV QgT ?_ | refine QV QgF ?_ | refine QV QaA ?_))
      refine TL_new rfl fun g10 => ?_
      conv => arg 8; simp only [zA, zB, zC, zD, zE, zF, zG, zH, zI, rowS, ret, id_eq]
      repeat (first
        | refine QV QP ?_ | refine QZ ?_ | refine qcT rfl ?_ | refine qcF rfl ?_ | refine E_blockX ?_ | refine E_blockO rfl ?_
        | refine qs rfl rfl rfl rfl rfl rfl ?_
        | ((try refine qg rfl rfl rfl ?_); first | refine QV QP ?_ | refine QV QL ?_ | refine QV QA ?_ | refine QV (rr_nilc rfl) ?_ | refine QV QlT ?_ | refine QV QlF ?_ | refine QV QgT ?_ | refine QV QgF ?_ | refine QV QaA ?_))
      refine TL_storeB (i := 8) (cs' := (clsL c).toArray) rfl rfl rfl rfl rfl rfl ?_
      conv => arg 8; simp only [zA, zB, zC, zD, zE, zF, zG, zH, zI, rowS, ret, id_eq]
      repeat (first
        | refine QV QP ?_ | refine QZ ?_ | refine qcT rfl ?_ | refine qcF rfl ?_ | refine E_blockX ?_ | refine E_blockO rfl ?_
        | refine qs rfl rfl rfl rfl rfl rfl ?_
        | ((try refine qg rfl rfl rfl ?_); first | refine QV QP ?_ | refine QV (rr_loadB (i := 5) TyC.ty rfl rfl rfl) ?_ | refine QV QL ?_ | refine QV QA ?_ | refine QV (rr_nilc rfl) ?_ | refine QV QlT ?_ | refine QV QlF ?_ | refine QV QgT ?_ | refine QV QgF ?_ | refine QV QaA ?_))
      refine TL_call (he2 EntersC.en rfl rfl rfl) (fun w hm => hhas w) rfl rfl rfl ?_
      intro _ _
      conv => arg 8; simp only [zA, zB, zC, zD, zE, zF, zG, zH, zI, rowS, ret, id_eq]
      by_cases q1 : b1 = true
      · subst q1
        repeat (first
          | refine QV QP ?_ | refine QZ ?_ | refine qcT rfl ?_ | refine qcF rfl ?_ | refine E_blockX ?_ | refine E_blockO rfl ?_
          | refine qs rfl rfl rfl rfl rfl rfl ?_
          | ((try refine qg rfl rfl rfl ?_); first | refine QV QP ?_ | refine QV (rr_loadB (i := 8) TyC.ty rfl rfl rfl) ?_ | refine QV (rr_conv Und.eq Und.eq rfl hu8) ?_ | refine QV QL ?_ | refine QV QA ?_ | refine QV (rr_nilc rfl) ?_ | refine QV QlT ?_ | refine QV QlF ?_ | refine QV QgT ?_ | refine QV QgF ?_ | refine QV QaA ?_))
        refine TL_gcall (he2 EntersC.en rfl rfl rfl) (fun w hm => hchs w) rfl rfl rfl rfl rfl ?_
        intro _ _
        conv => arg 8; simp only [zA, zB, zC, zD, zE, zF, zG, zH, zI, rowS, ret, id_eq]
        by_cases q2 : b2 = true
        · subst q2
          rw [if_pos ⟨rfl, rfl⟩] at hts
          repeat (first
            | refine QV QP ?_ | refine QZ ?_ | refine qcT rfl ?_ | refine qcF rfl ?_ | refine E_blockX ?_ | refine E_blockO rfl ?_
            | refine qs rfl rfl rfl rfl rfl rfl ?_
            | ((try refine qg rfl rfl rfl ?_); first | refine QV QP ?_ | refine QV QL ?_ | refine QV QA ?_ | refine QV (rr_nilc rfl) ?_ | refine QV QlT ?_ | refine QV QlF ?_ | refine QV QgT ?_ | refine QV QgF ?_ | refine QV QaA ?_))
          refine TL_callB [7] [0, 1, 2, 3, 4, 5, 6] (by decide) rfl rfl (he2 EntersC.en rfl rfl rfl) (fun w hm hb => setPut_calls tz k (by omega) g8 w _ hb) rfl rfl rfl ?_
          intro _ _
          conv => arg 8; simp only [zA, zB, zC, zD, zE, zF, zG, zH, zI, rowS, ret, id_eq]
          repeat (first
            | refine QV QP ?_ | refine QZ ?_ | refine qcT rfl ?_ | refine qcF rfl ?_ | refine E_blockX ?_ | refine E_blockO rfl ?_
            | refine qs rfl rfl rfl rfl rfl rfl ?_
            | ((try refine qg rfl rfl rfl ?_); first | refine QV QP ?_ | refine QV QL ?_ | refine QV QA ?_ | refine QV (rr_nilc rfl) ?_ | refine QV QlT ?_ | refine QV QlF ?_ | refine QV QgT ?_ | refine QV QgF ?_ | refine QV QaA ?_))
          exact E_round (k + 1) (by omega) (by show p.classes.length - (k + 1) < p.classes.length - k; omega) (by repeat' (first | exact True.intro | refine And.intro rfl ?_)) (by rw [hts])
        · rw [if_neg (fun h => q2 h.2)] at hts
          obtain rfl := Bool.eq_false_iff.2 q2
          repeat (first
            | refine QV QP ?_ | refine QZ ?_ | refine qcT rfl ?_ | refine qcF rfl ?_ | refine E_blockX ?_ | refine E_blockO rfl ?_
            | refine qs rfl rfl rfl rfl rfl rfl ?_
            | ((try refine qg rfl rfl rfl ?_); first | refine QV QP ?_ | refine QV QL ?_ | refine QV QA ?_ | refine QV (rr_nilc rfl) ?_ | refine QV QlT ?_ | refine QV QlF ?_ | refine QV QgT ?_ | refine QV QgF ?_ | refine QV QaA ?_))
          refine E_pick [0, 1, 2, 3, 4, 5, 6, 7] (by decide) rfl ?_
          exact E_round (k + 1) (by omega) (by show p.classes.length - (k + 1) < p.classes.length - k; omega) (by repeat' (first | exact True.intro | refine And.intro rfl ?_)) (by rw [hts]; rfl)
      · rw [if_neg (fun h => q1 h.1)] at hts
        obtain rfl := Bool.eq_false_iff.2 q1
        repeat (first
          | refine QV QP ?_ | refine QZ ?_ | refine qcT rfl ?_ | refine qcF rfl ?_ | refine E_blockX ?_ | refine E_blockO rfl ?_
          | refine qs rfl rfl rfl rfl rfl rfl ?_
          | ((try refine qg rfl rfl rfl ?_); first | refine QV QP ?_ | refine QV QL ?_ | refine QV QA ?_ | refine QV (rr_nilc rfl) ?_ | refine QV QlT ?_ | refine QV QlF ?_ | refine QV QgT ?_ | refine QV QgF ?_ | refine QV QaA ?_))
        refine E_pick [0, 1, 2, 3, 4, 5, 6, 7] (by decide) rfl ?_
        exact E_round (k + 1) (by omega) (by show p.classes.length - (k + 1) < p.classes.length - k; omega) (by repeat' (first | exact True.intro | refine And.intro rfl ?_)) (by rw [hts]; rfl)
    · obtain rfl : k = p.classes.length := by omega
      have hF : toTo p all b p.classes.length = toF p all b := rfl
      rw [hF]
      have hc0 := cellF_0 (p := p) (all := all) (r := r) (d := d) c1
      have hc1 := cellF_1 (p := p) (all := all) (r := r) (d := d) c1
      have heq := eq_set (toF p all b) C4.zero
      clear hF hrc
      generalize toF p all b = tz at *
      repeat (first
        | refine QV QP ?_ | refine QZ ?_ | refine qcT rfl ?_ | refine qcF rfl ?_ | refine E_blockX ?_ | refine E_blockO rfl ?_
        | refine qs rfl rfl rfl rfl rfl rfl ?_
        | ((try refine qg rfl rfl rfl ?_); first | refine QV QP ?_ | refine QV (rr_aidx1 Und.eq TyC.ty rfl rfl c1) ?_ | refine QV QL ?_ | refine QV QA ?_ | refine QV (rr_nilc rfl) ?_ | refine QV QlT ?_ | refine QV QlF ?_ | refine QV QgT ?_ | refine QV QgF ?_ | refine QV QaA ?_))
      refine TL_storeV (i := 6) rfl rfl rfl c1 ?_
      conv => arg 8; simp only [zA, zB, zC, zD, zE, zF, zG, zH, zI, rowS, ret, id_eq]
      by_cases q1 : tz = C4.zero
      · rw [decide_eq_true q1] at heq
        rw [hc0 q1, if_neg (by show ¬ 200 < d.S.length + 1; omega)] at i4
        refine TL_know (i := 1) rfl row_slm fun hrow => ?_
        obtain ⟨ab, cs, rfl, hmS, -⟩ := hrow
        repeat (first
          | refine QV QP ?_ | refine QZ ?_ | refine qcT rfl ?_ | refine qcF rfl ?_ | refine E_blockX ?_ | refine E_blockO rfl ?_
          | refine qs rfl rfl rfl rfl rfl rfl ?_
          | ((try refine qg rfl rfl rfl ?_); first | refine QV QP ?_ | refine QV (rr_loadB (i := 7) TyC.ty rfl rfl rfl) ?_ | refine QV (rr_build rfl hB0) ?_ | refine QV (rr_aggne rfl rfl (by kernel_rfl) heq rfl) ?_ | refine QV (rr_nilc rfl) ?_ | refine QV (rr_load1 (v := .slice ab (d.S.length + 1) cs) TyC.ty rfl (at_blk (i := 0) rfl rfl)) ?_ | refine QV (rr_gtr (b := false) rfl rfl (decide_eq_false (by omega))) ?_ | refine QV QL ?_ | refine QV QA ?_ | refine QV (rr_nilc rfl) ?_ | refine QV QlT ?_ | refine QV QlF ?_ | refine QV QgT ?_ | refine QV QgF ?_ | refine QV QaA ?_))
        refine E_pick [0, 1, 2, 3, 4, 5, 6] (by decide) rfl ?_
        exact E_round (b + 1, r.set b (-1), d, .slice ab (d.S.length + 1) cs, vt) ⟨by omega, i2, i3, i4⟩ (by show 256 - (b + 1) < 256 - b; omega) (by repeat' (first | exact True.intro | refine And.intro rfl ?_)) rfl
      · rw [decide_eq_false q1] at heq
        rw [hc1 q1] at i4
        obtain ⟨s1, s2, s3, s4, s5⟩ := state_ok i2 tz
        repeat (first
          | refine QV QP ?_ | refine QZ ?_ | refine qcT rfl ?_ | refine qcF rfl ?_ | refine E_blockX ?_ | refine E_blockO rfl ?_
          | refine qs rfl rfl rfl rfl rfl rfl ?_
          | ((try refine qg rfl rfl rfl ?_); first | refine QV QP ?_ | refine QV (rr_loadB (i := 7) TyC.ty rfl rfl rfl) ?_ | refine QV (rr_build rfl hB0) ?_ | refine QV (rr_aggne rfl rfl (by kernel_rfl) heq rfl) ?_ | refine QV QL ?_ | refine QV QA ?_ | refine QV (rr_nilc rfl) ?_ | refine QV QlT ?_ | refine QV QlF ?_ | refine QV QgT ?_ | refine QV QgF ?_ | refine QV QaA ?_))
        refine TL_callB [0, 1, 2, 3] [4, 5, 6, 7] (by decide) rfl rfl (he2 EntersC.en rfl rfl rfl) (fun w hm hb => hst d tz vs vt (by omega) (by have := i2.tags; omega) w _ (ho.on hm (by simp [dmL])) hb) rfl rfl rfl ?_
        rintro ⟨vs', vt'⟩ _
        conv => arg 8; simp only [zA, zB, zC, zD, zE, zF, zG, zH, zI, rowS, ret, id_eq, stSp, dmL]
        conv => arg 7; simp only [stSp]
        generalize stateF p d tz = R at *
        obtain ⟨q, d'⟩ := R
        dsimp only at i4 s1 s2 s3 s4 s5 ⊢
        have hq : q ≤ 200 := by omega
        refine TL_know (i := 5) rfl row_slm fun hrow => ?_
        obtain ⟨ab, cs, rfl, hmS, -⟩ := hrow
        repeat (first
          | refine QV QP ?_ | refine QZ ?_ | refine qcT rfl ?_ | refine qcF rfl ?_ | refine E_blockX ?_ | refine E_blockO rfl ?_
          | refine qs rfl rfl rfl rfl rfl rfl ?_
          | ((try refine qg rfl rfl rfl ?_); first | refine QV QP ?_ | refine QV (rr_conv Und.eq Und.eq rfl (wrap16d (by omega) (by omega))) ?_ | refine QV (rr_aidx1 Und.eq TyC.ty rfl rfl c1) ?_ | refine QV QL ?_ | refine QV QA ?_ | refine QV (rr_nilc rfl) ?_ | refine QV QlT ?_ | refine QV QlF ?_ | refine QV QgT ?_ | refine QV QgF ?_ | refine QV QaA ?_))
        refine TL_storeV (i := 2) rfl rfl rfl c1 ?_
        conv => arg 8; simp only [zA, zB, zC, zD, zE, zF, zG, zH, zI, rowS, ret, id_eq]
        generalize (r.set b (-1)).set b (q : Int) = r' at *
        by_cases q2 : 200 < d'.S.length + 1
        · rw [if_pos q2] at i4
          subst i4
          repeat (first
            | refine QV QP ?_ | refine QZ ?_ | refine qcT rfl ?_ | refine qcF rfl ?_ | refine E_blockX ?_ | refine E_blockO rfl ?_
            | refine qs rfl rfl rfl rfl rfl rfl ?_
            | ((try refine qg rfl rfl rfl ?_); first | refine QV QP ?_ | refine QV (rr_nilc rfl) ?_ | refine QV (rr_load1 (v := .slice ab (d'.S.length + 1) cs) TyC.ty rfl (at_blk (i := 4) rfl rfl)) ?_ | refine QV (rr_gtr (b := true) rfl rfl (decide_eq_true (by omega))) ?_ | refine QV (rr_loadB (i := 2) TyC.ty rfl rfl (by rw [List.size_toArray, rowC_len])) ?_ | refine QV QL ?_ | refine QV QA ?_ | refine QV (rr_nilc rfl) ?_ | refine QV QlT ?_ | refine QV QlF ?_ | refine QV QgT ?_ | refine QV QgF ?_ | refine QV QaA ?_))
          refine TL_storeB (i := 0) (cs' := (rowC r').toArray) rfl rfl rfl (by rw [List.size_toArray, rowC_len]) (row_oneA r') (by rw [List.size_toArray, rowC_len]) ?_
          conv => arg 8; simp only [zA, zB, zC, zD, zE, zF, zG, zH, zI, rowS, ret, id_eq]
          repeat (first
            | refine QV QP ?_ | refine QZ ?_ | refine qcT rfl ?_ | refine qcF rfl ?_ | refine E_blockX ?_ | refine E_blockO rfl ?_
            | refine qs rfl rfl rfl rfl rfl rfl ?_
            | ((try refine qg rfl rfl rfl ?_); first | refine QV QP ?_ | refine QV QL ?_ | refine QV QA ?_ | refine QV (rr_nilc rfl) ?_ | refine QV QlT ?_ | refine QV QlF ?_ | refine QV QgT ?_ | refine QV QgF ?_ | refine QV QaA ?_))
          exact E_retc1 (i := 0) rfl rfl rfl (by rw [List.size_toArray, rowC_len]) fun w hm => hm.meetsB (S := ⟨fun (_ : Value × Value) => True, fun _ => rowV r', fun x => dmL (.slice ac p.classes.length cc) vr vf vfol vl ve rows g gm x.1 x.2 d'⟩) (.slice ab (d'.S.length + 1) cs, vt') trivial [4, 5, 6, 7] (by decide) rfl
        · rw [if_neg q2] at i4
          repeat (first
            | refine QV QP ?_ | refine QZ ?_ | refine qcT rfl ?_ | refine qcF rfl ?_ | refine E_blockX ?_ | refine E_blockO rfl ?_
            | refine qs rfl rfl rfl rfl rfl rfl ?_
            | ((try refine qg rfl rfl rfl ?_); first | refine QV QP ?_ | refine QV (rr_nilc rfl) ?_ | refine QV (rr_load1 (v := .slice ab (d'.S.length + 1) cs) TyC.ty rfl (at_blk (i := 4) rfl rfl)) ?_ | refine QV (rr_gtr (b := false) rfl rfl (decide_eq_false (by omega))) ?_ | refine QV QL ?_ | refine QV QA ?_ | refine QV (rr_nilc rfl) ?_ | refine QV QlT ?_ | refine QV QlF ?_ | refine QV QgT ?_ | refine QV QgF ?_ | refine QV QaA ?_))
          refine E_pick [4, 5, 6, 7, 0, 1, 2] (by decide) rfl ?_
          exact E_round (b + 1, r', d', .slice ab (d'.S.length + 1) cs, vt') ⟨by omega, s1, by show d'.S.length + 1 ≤ 200; omega, i4⟩ (by show 256 - (b + 1) < 256 - b; omega) (by repeat' (first | exact True.intro | refine And.intro rfl ?_)) rfl
  · obtain rfl : b = 256 := by omega
    have i4 : (r, d) = fin := i4
    subst i4
    repeat (first
      | refine QV QP ?_ | refine QZ ?_ | refine qcT rfl ?_ | refine qcF rfl ?_ | refine E_blockX ?_ | refine E_blockO rfl ?_
      | refine qs rfl rfl rfl rfl rfl rfl ?_
      | ((try refine qg rfl rfl rfl ?_); first | refine QV QP ?_ | refine QV (rr_loadB (i := 6) TyC.ty rfl rfl (by rw [List.size_toArray, rowC_len])) ?_ | refine QV QL ?_ | refine QV QA ?_ | refine QV (rr_nilc rfl) ?_ | refine QV QlT ?_ | refine QV QlF ?_ | refine QV QgT ?_ | refine QV QgF ?_ | refine QV QaA ?_))
    refine TL_storeB (i := 4) (cs' := (rowC r).toArray) rfl rfl rfl (by rw [List.size_toArray, rowC_len]) (row_oneA r) (by rw [List.size_toArray, rowC_len]) ?_
    conv => arg 8; simp only [zA, zB, zC, zD, zE, zF, zG, zH, zI, rowS, ret, id_eq]
    repeat (first
      | refine QV QP ?_ | refine QZ ?_ | refine qcT rfl ?_ | refine qcF rfl ?_ | refine E_blockX ?_ | refine E_blockO rfl ?_
      | refine qs rfl rfl rfl rfl rfl rfl ?_
      | ((try refine qg rfl rfl rfl ?_); first | refine QV QP ?_ | refine QV QL ?_ | refine QV QA ?_ | refine QV (rr_nilc rfl) ?_ | refine QV QlT ?_ | refine QV QlF ?_ | refine QV QgT ?_ | refine QV QgF ?_ | refine QV QaA ?_))
    exact E_retc1 (i := 4) rfl rfl rfl (by rw [List.size_toArray, rowC_len]) fun w hm => hm.meetsB (S := ⟨fun (_ : Value × Value) => True, fun _ => rowV r, fun x => dmL (.slice ac p.classes.length cc) vr vf vfol vl ve rows g gm x.1 x.2 d⟩) (vs, vt) trivial [0, 1, 2, 3] (by decide) rfl
end Go.Proofs.YtkcnoompimohnaaDoor.eng

/- DfM -/
namespace Go.Proofs.YtkcnoompimohnaaDoor.eng
open Go.RowKit kit mix classL rexL placesL dfaP smallL
/-- what Make answers -/
def outD (m : MS) : List Row × List Int × Int := match makeD m with
  | some (R, d) => (R, d.tags, 0)
  | none => ([], [], 8)
def mkdSp (m : MS) : Spec (Value × Value) := ⟨fun _ => True, fun x => .tuple #[dfaV x.1 x.2, .int .i64 (outD m).2.2], fun x => [rowO 73 256 x.1 (outD m).1.length ((outD m).1.flatMap rowC), intR x.2 (outD m).2.1]⟩
theorem outD_0 {m : MS} {R : List Row} {d : DM} (h : makeD m = some (R, d)) : outD m = (R, d.tags, 0) := by unfold outD; rw [h]
theorem outD_8 {m : MS} (h : makeD m = none) : outD m = ([], [], 8) := by unfold outD; rw [h]
theorem make_step (m : MS) (f n : Nat) (R : List Row) (d : DM) : makeTo m (f + 1) n R d = if n < d.S.length + 1 then (if 200 < (rowP m n d).2.S.length + 1 then none else makeTo m f (n + 1) (R ++ [(rowP m n d).1]) (rowP m n d).2) else some (R, d) := rfl
theorem build_dfaz (w : World) : (Instr.build 26 (#[] : Array (Nat × Value))).run Tryd.prog w = .ok (.agg #[.slice none 0 0, .slice none 0 0]) w := by kernel_rfl
theorem build_dm (vc vr vf vfol vl ve : Value) (g gm : Nat) (w : World) : (Instr.build 92 #[(0, .agg #[vc, vr, vf, vfol, vl, ve]), (1, .slice (some ⟨g, 0, none⟩) 1 1), (2, .map (some gm))]).run Tryd.prog w = .ok (.agg (dmC vc vr vf vfol vl ve (.slice (some ⟨g, 0, none⟩) 1 1) (.map (some gm)) (.slice none 0 0) (.slice none 0 0))) w := by
  unfold dmC; go_simp
theorem row_set1 {g : Nat} {w : World} (h : (blkO g (madeCells #[Value.int .u64 0, Value.int .u64 0, Value.int .u64 0, Value.int .u64 0] (1 * 4)) 106).holds w) : (setsO (.slice (some ⟨g, 0, none⟩) 1 1) []).holds w := by
  rw [madeC (k := 4) rfl (by decide)] at h
  exact ⟨rfl, .inr ⟨g, 1, _, rfl, Nat.zero_le _, h, Nat.le_refl _, by decide, rfl, rfl⟩⟩
theorem row_snocR (v : Value) (R : List Row) (r : Row) : rowO 73 256 v (R ++ [r]).length ((R ++ [r]).flatMap rowC) = rowO 73 256 v (R.length + 1) (R.flatMap rowC ++ rowC r) := by
  rw [List.length_append, List.flatMap_append]; simp
theorem dmc_at {vc vr vf vfol vl ve vs num rows tags v : Value} {j : Nat} (h : [rows, tags][j]? = some v) : (dmC vc vr vf vfol vl ve vs num rows tags)[8 + j]? = some v := by
  match j, h with
  | 0, h => exact h
  | 1, h => exact h
theorem row_lit (r : Row) : (rowC r).toArray = ([rowV r].flatMap fun v => v.cells.toList).toArray := by
  show _ = ((rowC r).toArray.toList ++ []).toArray
  simp
theorem row_litn (r : Row) : ∀ v ∈ [rowV r], v.cells.size = 256 := by
  intro v hv
  rw [List.mem_singleton.1 hv]
  show (rowC r).toArray.size = 256
  rw [List.size_toArray, rowC_len]
set_option maxRecDepth 100000 in
set_option maxHeartbeats 8000000 in
theorem dfaMake_calls (v : Value) (m : MS) (w : World) (hp : PosR w v m) (h : MOkP m) :
    Calls Tryd.prog 14 #[v] w (Meets (mkdSp m) w) := by
  have hck := fun w' (hg : Gr w w') => posCheck_calls v m w' (hp.gr hg) h
  obtain ⟨vc, vr, vf, vfol, vl, ve, rfl, h1, h2, h3, h4, h5, h6⟩ := id hp
  have hrw := fun rows d g gm n vs vt hd hd2 hn w' B ho hm => dfaRow_calls m vc vr vf vfol vl ve rows d g gm n vs vt w hp h hd hd2 hn w' B ho hm
  clear h1 h2 h3 h4 h5 hp
  have hms := h.some
  have hmm := h.most
  clear h
  obtain ⟨ae, ce, rfl, -, hme, hre⟩ := h6
  unfold maxLen at hme
  have hbz := build_dfaz
  refine enter (args := [.agg #[vc, vr, vf, vfol, vl, .slice ae m.empty.length ce]]) (n := 78) Tryd.func14 rfl rfl rfl ?_
  refine T_seq (T_region (TL_box rfl rfl rfl fun g1 => TL_new rfl fun g2 => ?_))
  conv => arg 8; simp only [zA, zB, zC, zD, zE, zF, zG, zH, zI, rowS, ret, id_eq]
  repeat (first
    | refine QV QP ?_ | refine QZ ?_ | refine qcT rfl ?_ | refine qcF rfl ?_ | refine E_blockX ?_ | refine E_blockO rfl ?_
    | refine QV (rr_loadB (i := 0) TyC.ty rfl rfl rfl) ?_ | refine QV QL ?_ | refine QV QA ?_ | refine QV (rr_nilc rfl) ?_ | refine QV QlT ?_
    | refine QV QlF ?_ | refine QV QgT ?_ | refine QV QgF ?_ | refine QV QhT ?_ | refine QV QhF ?_ | refine QV QnT ?_ | refine QV QnF ?_ | refine QV QaA ?_
    | refine QV QaS ?_)
  refine TL_call (he1 EntersC.en rfl rfl) (fun w hm => hck _ hm.below) rfl rfl rfl ?_
  intro _ _
  conv => arg 8; simp only [zA, zB, zC, zD, zE, zF, zG, zH, zI, rowS, ret, id_eq]
  clear hck
  repeat (first
    | refine QV QP ?_ | refine QZ ?_ | refine qcT rfl ?_ | refine qcF rfl ?_ | refine E_blockX ?_ | refine E_blockO rfl ?_
    | refine QV (rr_neq (b := false) rfl rfl (decide_eq_false (by simp))) ?_ | refine QV QL ?_ | refine QV QA ?_ | refine QV (rr_nilc rfl) ?_
    | refine QV QlT ?_ | refine QV QlF ?_ | refine QV QgT ?_ | refine QV QgF ?_ | refine QV QhT ?_ | refine QV QhF ?_ | refine QV QnT ?_ | refine QV QnF ?_
    | refine QV QaA ?_ | refine QV QaS ?_)
  (repeat refine T_seq ?_)
  refine T_midq (ι := Nat × Nat × Nat) (fun _ => True) (fun (_, _, g5) => [(1, .pointer (some ⟨g1, 0, none⟩)), (2, .pointer (some ⟨g2, 0, none⟩)), (5, .pointer (some ⟨g5, 0, none⟩))])
    (fun (gs, gm, g5) => [blkO g1 #[vc, vr, vf, vfol, vl, .slice ae m.empty.length ce] 57, blkO g2 #[.slice none 0 0, .slice none 0 0] 26, blkO g5 (dmC vc vr vf vfol vl (.slice ae m.empty.length ce) (.slice (some ⟨gs, 0, none⟩) 1 1) (.map (some gm)) (.slice none 0 0) (.slice none 0 0)) 92, setsO (.slice (some ⟨gs, 0, none⟩) 1 1) [], numO gm []]) ?_ ?_
  · refine T_ord ([blkO g1 #[vc, vr, vf, vfol, vl, .slice ae m.empty.length ce] 57]) (.calm 0 (.two 1 (.one 2 (.calm 3 (.one 4 (.calm 5 (.done))))) 2 (.one 1 (.calm 3 (.one 4 (.calm 5 (.done))))))) (sub_pick [0] (by decide) rfl) (by kernel_rfl) (by kernel_rfl) (by intro c a d v w h; cases d <;> exact h) ?_
    repeat (first
      | ((first | refine TW_plain rfl rfl ?_ | refine TW_gmet rfl rfl rfl rfl ?_); first | refine QW QP ?_ | refine QW (rr_loadB (i := 0) TyC.ty rfl rfl rfl) ?_ | refine QW QL ?_ | refine QW QA ?_ | refine QW (rr_nilc rfl) ?_ | refine QW QlT ?_ | refine QW QlF ?_ | refine QW QgT ?_ | refine QW QgF ?_ | refine QW QhT ?_ | refine QW QhF ?_ | refine QW QnT ?_ | refine QW QnF ?_ | refine QW QaA ?_ | refine QW QaS ?_)
      | refine TW_done ?_)
    refine TW_two rfl rfl ?_ ?_
    · refine TL_makeB (m := 1) (cap := 1) rfl rfl (Nat.le_refl 1) (by decide) (by decide) rfl fun gs => TW_on (sub_pick [0] (by decide) rfl) ?_
      refine TW_one rfl (TL_map setK rfl fun gm => TW_on (sub_pick [0] (by decide) rfl) ?_)
      repeat (first
        | ((first | refine TW_plain rfl rfl ?_ | refine TW_gmet rfl rfl rfl rfl ?_); first | refine QW QP ?_ | refine QW (rr_build rfl (build_dm _ _ _ _ _ _ _ _)) ?_ | refine QW QL ?_ | refine QW QA ?_ | refine QW (rr_nilc rfl) ?_ | refine QW QlT ?_ | refine QW QlF ?_ | refine QW QgT ?_ | refine QW QgF ?_ | refine QW QhT ?_ | refine QW QhF ?_ | refine QW QnT ?_ | refine QW QnF ?_ | refine QW QaA ?_ | refine QW QaS ?_)
        | refine TW_done ?_)
      refine TW_one rfl (TL_box rfl rfl rfl fun g5 => TW_on (sub_pick [0] (by decide) rfl) ?_)
      repeat (first
        | ((first | refine TW_plain rfl rfl ?_ | refine TW_gmet rfl rfl rfl rfl ?_); first | refine QW QP ?_ | refine QW QL ?_ | refine QW QA ?_ | refine QW (rr_nilc rfl) ?_ | refine QW QlT ?_ | refine QW QlF ?_ | refine QW QgT ?_ | refine QW QgF ?_ | refine QW QhT ?_ | refine QW QhF ?_ | refine QW QnT ?_ | refine QW QnF ?_ | refine QW QaA ?_ | refine QW QaS ?_)
        | refine TW_done ?_)
      refine E_reown (i := 2) (setsO (.slice (some ⟨gs, 0, none⟩) 1 1) []) rfl (fun w h => row_set1 h) (fun k h => h) ?_
      refine E_reown (i := 3) (numO gm []) rfl (fun w h => by unfold numO; rw [← mapAt1_nil]; exact h) (fun k h => h) ?_
      refine E_pick [0, 1, 4, 2, 3] (by decide) rfl ?_
      exact E_mid (gs, gm, g5) trivial (by repeat' (first | exact True.intro | refine And.intro rfl ?_)) rfl
    · refine TL_map setK rfl fun gm => TW_on (sub_pick [0] (by decide) rfl) ?_
      refine TW_one rfl (TL_makeB (m := 1) (cap := 1) rfl rfl (Nat.le_refl 1) (by decide) (by decide) rfl fun gs => TW_on (sub_pick [0] (by decide) rfl) ?_)
      repeat (first
        | ((first | refine TW_plain rfl rfl ?_ | refine TW_gmet rfl rfl rfl rfl ?_); first | refine QW QP ?_ | refine QW (rr_build rfl (build_dm _ _ _ _ _ _ _ _)) ?_ | refine QW QL ?_ | refine QW QA ?_ | refine QW (rr_nilc rfl) ?_ | refine QW QlT ?_ | refine QW QlF ?_ | refine QW QgT ?_ | refine QW QgF ?_ | refine QW QhT ?_ | refine QW QhF ?_ | refine QW QnT ?_ | refine QW QnF ?_ | refine QW QaA ?_ | refine QW QaS ?_)
        | refine TW_done ?_)
      refine TW_one rfl (TL_box rfl rfl rfl fun g5 => TW_on (sub_pick [0] (by decide) rfl) ?_)
      repeat (first
        | ((first | refine TW_plain rfl rfl ?_ | refine TW_gmet rfl rfl rfl rfl ?_); first | refine QW QP ?_ | refine QW QL ?_ | refine QW QA ?_ | refine QW (rr_nilc rfl) ?_ | refine QW QlT ?_ | refine QW QlF ?_ | refine QW QgT ?_ | refine QW QgF ?_ | refine QW QhT ?_ | refine QW QhF ?_ | refine QW QnT ?_ | refine QW QnF ?_ | refine QW QaA ?_ | refine QW QaS ?_)
        | refine TW_done ?_)
      refine E_reown (i := 3) (setsO (.slice (some ⟨gs, 0, none⟩) 1 1) []) rfl (fun w h => row_set1 h) (fun k h => h) ?_
      refine E_reown (i := 2) (numO gm []) rfl (fun w h => by unfold numO; rw [← mapAt1_nil]; exact h) (fun k h => h) ?_
      refine E_pick [0, 1, 4, 3, 2] (by decide) rfl ?_
      exact E_mid (gs, gm, g5) trivial (by repeat' (first | exact True.intro | refine And.intro rfl ?_)) rfl
  rintro ⟨gs, gm, g5⟩ _
  dsimp only
  repeat (first
    | refine QV QP ?_ | refine QZ ?_ | refine qcT rfl ?_ | refine qcF rfl ?_ | refine E_blockX ?_ | refine E_blockO rfl ?_ | refine QV QL ?_
    | refine QV QA ?_ | refine QV (rr_nilc rfl) ?_ | refine QV QlT ?_ | refine QV QlF ?_ | refine QV QgT ?_ | refine QV QgF ?_ | refine QV QhT ?_
    | refine QV QhF ?_ | refine QV QnT ?_ | refine QV QnF ?_ | refine QV QaA ?_ | refine QV QaS ?_)
  refine TL_litN (cs := #[.int .i64 (-1)]) [.int .i64 (-1)] rfl rfl rfl (by intro v hv; simp at hv; subst hv; rfl) rfl rfl rfl fun g20 => ?_
  conv => arg 8; simp only [zA, zB, zC, zD, zE, zF, zG, zH, zI, rowS, ret, id_eq]
  repeat (first
    | refine QV QP ?_ | refine QZ ?_ | refine qcT rfl ?_ | refine qcF rfl ?_ | refine E_blockX ?_ | refine E_blockO rfl ?_ | refine QV (rr_nilc rfl) ?_
    | refine QV QL ?_ | refine QV QA ?_ | refine QV (rr_nilc rfl) ?_ | refine QV QlT ?_ | refine QV QlF ?_ | refine QV QgT ?_ | refine QV QgF ?_
    | refine QV QhT ?_ | refine QV QhF ?_ | refine QV QnT ?_ | refine QV QnF ?_ | refine QV QaA ?_ | refine QV QaS ?_)
  refine TL_store1 (i := 2) rfl rfl rfl rfl rfl rfl ?_
  conv => arg 8; simp only [zA, zB, zC, zD, zE, zF, zG, zH, zI, rowS, ret, id_eq]
  repeat (first
    | refine QV QP ?_ | refine QZ ?_ | refine qcT rfl ?_ | refine qcF rfl ?_ | refine E_blockX ?_ | refine E_blockO rfl ?_
    | refine QV (rr_load1 (v := .slice ae m.empty.length ce) TyC.ty rfl (at_blk (i := 0) rfl rfl)) ?_
    | refine QV (rr_sub64 (r := (m.empty.length : Int) - 1) rfl rfl (by omega) (by omega) rfl) ?_ | refine QV QL ?_ | refine QV QA ?_
    | refine QV (rr_nilc rfl) ?_ | refine QV QlT ?_ | refine QV QlF ?_ | refine QV QgT ?_ | refine QV QgF ?_ | refine QV QhT ?_ | refine QV QhF ?_
    | refine QV QnT ?_ | refine QV QnF ?_ | refine QV QaA ?_ | refine QV QaS ?_)
  refine T_loop (ι := Nat) (fun k => k ≤ m.empty.length) (fun k => [(1, .pointer (some ⟨g1, 0, none⟩)), (2, .pointer (some ⟨g2, 0, none⟩)), (5, .pointer (some ⟨g5, 0, none⟩)), (6, .int .i64 ((k : Int) - 1))])
    (fun k => [blkO g1 #[vc, vr, vf, vfol, vl, .slice ae m.empty.length ce] 57, blkO g2 #[.slice none 0 0, .slice none 0 0] 26, blkO g5 (dmC vc vr vf vfol vl (.slice ae m.empty.length ce) (.slice (some ⟨gs, 0, none⟩) 1 1) (.map (some gm)) (.slice none 0 0) (.slice (some ⟨g20, 0, none⟩) 1 1)) 92, setsO (.slice (some ⟨gs, 0, none⟩) 1 1) [], numO gm [], blkO g20 #[.int .i64 (firstT (m.empty.drop k) k)] 3]) (fun k => k) m.empty.length (Nat.le_refl _) (by repeat' (first | exact True.intro | refine And.intro rfl ?_)) (by rw [List.drop_eq_nil_of_le (Nat.le_refl _)]; rfl) ?_
  intro k hk
  by_cases c1 : 0 < k
  · obtain ⟨j, rfl⟩ : ∃ j, k = j + 1 := ⟨k - 1, by omega⟩
    have hj : j < m.empty.length := by omega
    obtain ⟨be, offe, rfl, hred⟩ := hre (by omega)
    have hate := fun (L : List Own) => at_el (L := L) BoE_len hred hj 0 _ rfl
    have hst : firstT (m.empty.drop j) j = if m.empty[j] = true then (j : Int) else firstT (m.empty.drop (j + 1)) ((j : Int) + 1) := by rw [List.drop_eq_getElem_cons hj, firstT]
    rw [show (((j + 1 : Nat) : Int)) = (j : Int) + 1 by omega] at *
    generalize firstT (m.empty.drop (j + 1)) ((j : Int) + 1) = t at *
    generalize m.empty[j] = b at *
    rw [show (j : Int) + 1 - 1 = (j : Int) by omega]
    have hate' : ∀ (L : List Own), At (w : Base) L ⟨be, offe + j * 1 + 0, none⟩ (.bool b) := hate
    by_cases c2 : b = true
    · subst c2
      rw [if_pos rfl] at hst
      repeat (first
        | refine QV QP ?_ | refine QZ ?_ | refine qcT rfl ?_ | refine qcF rfl ?_ | refine E_blockX ?_ | refine E_blockO rfl ?_
        | refine QV (rr_geq (b := true) rfl rfl (decide_eq_true (by omega))) ?_
        | refine QV (rr_load1 (v := .slice (some ⟨be, offe, none⟩) m.empty.length ce) TyC.ty rfl (at_blk (i := 0) rfl rfl)) ?_
        | refine QV (rr_idxc Und.eq TyC.ty rfl rfl hj) ?_ | refine QV (rr_load1 (v := .bool true) TyC.ty rfl (hate' _)) ?_ | refine QV (rr_nilc rfl) ?_
        | refine QV (rr_load1 (v := .slice (some ⟨g20, 0, none⟩) 1 1) TyC.ty rfl (at_blk (i := 2) rfl rfl)) ?_
        | refine QV (rr_idxc (j := 0) Und.eq TyC.ty rfl rfl (by decide)) ?_ | refine QV QL ?_ | refine QV QA ?_ | refine QV (rr_nilc rfl) ?_ | refine QV QlT ?_
        | refine QV QlF ?_ | refine QV QgT ?_ | refine QV QgF ?_ | refine QV QhT ?_ | refine QV QhF ?_ | refine QV QnT ?_ | refine QV QnF ?_ | refine QV QaA ?_
        | refine QV QaS ?_)
      refine TL_store1 (i := 5) rfl rfl rfl rfl rfl rfl ?_
      conv => arg 8; simp only [zA, zB, zC, zD, zE, zF, zG, zH, zI, rowS, ret, id_eq]
      repeat (first
        | refine QV QP ?_ | refine QZ ?_ | refine qcT rfl ?_ | refine qcF rfl ?_ | refine E_blockX ?_ | refine E_blockO rfl ?_
        | refine QV (rr_sub64 (r := (j : Int) - 1) rfl rfl (by omega) (by omega) rfl) ?_ | refine QV QL ?_ | refine QV QA ?_ | refine QV (rr_nilc rfl) ?_
        | refine QV QlT ?_ | refine QV QlF ?_ | refine QV QgT ?_ | refine QV QgF ?_ | refine QV QhT ?_ | refine QV QhF ?_ | refine QV QnT ?_ | refine QV QnF ?_
        | refine QV QaA ?_ | refine QV QaS ?_)
      exact E_round j (by omega) (by show j < j + 1; omega) (by repeat' (first | exact True.intro | refine And.intro rfl ?_)) (by rw [hst]; rfl)
    · rw [if_neg c2] at hst
      obtain rfl := Bool.eq_false_iff.2 c2
      repeat (first
        | refine QV QP ?_ | refine QZ ?_ | refine qcT rfl ?_ | refine qcF rfl ?_ | refine E_blockX ?_ | refine E_blockO rfl ?_
        | refine QV (rr_geq (b := true) rfl rfl (decide_eq_true (by omega))) ?_
        | refine QV (rr_load1 (v := .slice (some ⟨be, offe, none⟩) m.empty.length ce) TyC.ty rfl (at_blk (i := 0) rfl rfl)) ?_
        | refine QV (rr_idxc Und.eq TyC.ty rfl rfl hj) ?_ | refine QV (rr_load1 (v := .bool false) TyC.ty rfl (hate' _)) ?_
        | refine QV (rr_sub64 (r := (j : Int) - 1) rfl rfl (by omega) (by omega) rfl) ?_ | refine QV QL ?_ | refine QV QA ?_ | refine QV (rr_nilc rfl) ?_
        | refine QV QlT ?_ | refine QV QlF ?_ | refine QV QgT ?_ | refine QV QgF ?_ | refine QV QhT ?_ | refine QV QhF ?_ | refine QV QnT ?_ | refine QV QnF ?_
        | refine QV QaA ?_ | refine QV QaS ?_)
      exact E_round j (by omega) (by show j < j + 1; omega) (by repeat' (first | exact True.intro | refine And.intro rfl ?_)) (by rw [hst])
  · obtain rfl : k = 0 := by omega
    rw [show firstT (m.empty.drop 0) ((0 : Nat) : Int) = firstT m.empty 0 from rfl]
    have hfin : makeTo m (201 - 0) 0 [] ⟨[], [firstT m.empty 0]⟩ = makeD m := rfl
    generalize firstT m.empty 0 = t0 at *
    refine T_reown (i := 5) (intR (.slice (some ⟨g20, 0, none⟩) 1 1) [t0]) rfl (fun w h => one_row h) (fun k h => h) ?_
    repeat (first
      | refine QV QP ?_ | refine QZ ?_ | refine qcT rfl ?_ | refine qcF rfl ?_ | refine E_blockX ?_ | refine E_blockO rfl ?_
      | refine QV (rr_geq (b := false) rfl rfl (decide_eq_false (by omega))) ?_ | refine QV QL ?_ | refine QV QA ?_ | refine QV (rr_nilc rfl) ?_
      | refine QV QlT ?_ | refine QV QlF ?_ | refine QV QgT ?_ | refine QV QgF ?_ | refine QV QhT ?_ | refine QV QhF ?_ | refine QV QnT ?_ | refine QV QnF ?_
      | refine QV QaA ?_ | refine QV QaS ?_)
    refine T_nil 73 256 ?_
    refine T_pick [1, 2, 3, 4, 5, 6] (by decide) rfl ?_
    clear hre
    refine T_loop (ι := Nat × List Row × DM × Value × Value × Value) (fun (n, R, d, _, _, _) => R.length = n ∧ n ≤ d.S.length + 1 ∧ DOk m.ps d ∧ d.S.length + 1 ≤ 200 ∧ makeTo m (201 - n) n R d = makeD m) (fun (n, _, _, _, _, _) => [(2, .pointer (some ⟨g2, 0, none⟩)), (5, .pointer (some ⟨g5, 0, none⟩)), (7, .int .i64 (n : Int))])
      (fun (_, R, d, vs, vrows, vt) => [blkO g2 #[.slice none 0 0, .slice none 0 0] 26, blkO g5 (dmC vc vr vf vfol vl (.slice ae m.empty.length ce) vs (.map (some gm)) vrows vt) 92, setsO vs d.S, numO gm d.S, intR vt d.tags, rowO 73 256 vrows R.length (R.flatMap rowC)]) (fun (n, _, _, _, _, _) => 201 - n) (0, [], ⟨[], [t0]⟩, .slice (some ⟨gs, 0, none⟩) 1 1, .slice none 0 0, .slice (some ⟨g20, 0, none⟩) 1 1) ⟨rfl, Nat.zero_le _, ⟨List.nodup_nil, rfl⟩, by show 0 + 1 ≤ 200; omega, hfin⟩ (by repeat' (first | exact True.intro | refine And.intro rfl ?_)) rfl ?_
    clear hfin hk c1
    rintro ⟨n, R, d, vs, vrows, vt⟩ ⟨i0, i1, i2, i3, i4⟩
    dsimp only at i0 i1 i2 i3 i4 ⊢
    refine T_know (i := 2) rfl row_slm fun hrow => ?_
    obtain ⟨ab, cs, rfl, hmS, -⟩ := hrow
    by_cases c1 : n < d.S.length + 1
    · rw [show 201 - n = (201 - (n + 1)) + 1 by omega, make_step, if_pos c1] at i4
      obtain ⟨s1, s2, s3⟩ := rowTo_ok (p := m.ps) (nextF m d.S n) 256 0 (Vector.replicate 256 0) d i2 i3
      have hcall := fun w' (hm' : Mem (w : Base) [blkO g2 #[.slice none 0 0, .slice none 0 0] 26, blkO g5 (dmC vc vr vf vfol vl (.slice ae m.empty.length ce) (.slice ab (d.S.length + 1) cs) (.map (some gm)) vrows vt) 92, setsO (.slice ab (d.S.length + 1) cs) d.S, numO gm d.S, intR vt d.tags, rowO 73 256 vrows R.length (R.flatMap rowC)] w') (hb : Mem (Base.on w' (dmL vc vr vf vfol vl (.slice ae m.empty.length ce) vrows g5 gm (.slice ab (d.S.length + 1) cs) vt d)) (dmL vc vr vf vfol vl (.slice ae m.empty.length ce) vrows g5 gm (.slice ab (d.S.length + 1) cs) vt d) w') => hrw vrows d g5 gm n (.slice ab (d.S.length + 1) cs) vt i2 i3 (by omega) w' _ ((Old.self w).on hm' (by simp [dmL])) hb
      rw [show rowTo m.ps (nextF m d.S n) 256 0 (Vector.replicate 256 0) d = rowP m n d from rfl] at s1 s2 s3
      obtain ⟨r', d', hrp⟩ : ∃ r' d', rowP m n d = (r', d') := ⟨_, _, rfl⟩
      rw [hrp] at i4 s1 s2 s3
      dsimp only at i4 s1 s2 s3
      repeat (first
        | refine QV QP ?_ | refine QZ ?_ | refine qcT rfl ?_ | refine qcF rfl ?_ | refine E_blockX ?_ | refine E_blockO rfl ?_ | refine QV (rr_nilc rfl) ?_
        | refine QV (rr_load1 (v := .slice ab (d.S.length + 1) cs) TyC.ty rfl (at_blk (i := 1) rfl rfl)) ?_
        | refine QV (rr_lss (b := true) rfl rfl (decide_eq_true (by omega))) ?_ | refine QV QL ?_ | refine QV QA ?_ | refine QV (rr_nilc rfl) ?_
        | refine QV QlT ?_ | refine QV QlF ?_ | refine QV QgT ?_ | refine QV QgF ?_ | refine QV QhT ?_ | refine QV QhF ?_ | refine QV QnT ?_ | refine QV QnF ?_
        | refine QV QaA ?_ | refine QV QaS ?_)
      (repeat refine T_seq ?_)
      refine T_midq (ι := Value × Value × Value) (fun _ => True) (fun _ => [(2, .pointer (some ⟨g2, 0, none⟩)), (5, .pointer (some ⟨g5, 0, none⟩)), (7, .int .i64 (n : Int))])
        (fun (vs', vrows', vt') => [blkO g2 #[.slice none 0 0, .slice none 0 0] 26, blkO g5 (dmC vc vr vf vfol vl (.slice ae m.empty.length ce) vs' (.map (some gm)) vrows' vt') 92, setsO vs' d'.S, numO gm d'.S, intR vt' d'.tags, rowO 73 256 vrows' (R ++ [r']).length ((R ++ [r']).flatMap rowC)]) ?_ ?_
      · refine T_ord ([]) (.calm 0 (.calm 1 (.calm 2 (.calm 3 (.calm 4 (.calm 6 (.calm 7 (.two 5 (.one 8 (.one 9 (.one 10 (.calm 11 (.calm 12 (.calm 13 (.one 14 (.done)))))))) 8 (.two 5 (.one 9 (.one 10 (.calm 11 (.calm 12 (.calm 13 (.one 14 (.done))))))) 9 (.one 5 (.one 10 (.calm 11 (.calm 12 (.calm 13 (.one 14 (.done)))))))))))))))) (sub_pick [] (by decide) rfl) (by kernel_rfl) (by kernel_rfl) (by intro c a d v w h; cases d <;> exact h) ?_
        repeat (first
          | ((first | refine TW_plain rfl rfl ?_ | refine TW_gmet rfl rfl rfl rfl ?_); first | refine QW QP ?_ | refine QW (rr_nilc rfl) ?_ | refine QW QL ?_ | refine QW QA ?_ | refine QW (rr_nilc rfl) ?_ | refine QW QlT ?_ | refine QW QlF ?_ | refine QW QgT ?_ | refine QW QgF ?_ | refine QW QhT ?_ | refine QW QhF ?_ | refine QW QnT ?_ | refine QW QnF ?_ | refine QW QaA ?_ | refine QW QaS ?_)
          | refine TW_done ?_)
        refine TW_two rfl rfl ?_ ?_
        · refine TL_val (rr_load1 (v := vrows) TyC.ty rfl (at_blk (i := 1) rfl rfl)) rfl rfl rfl (TW_on (sub_pick [] (by decide) rfl) ?_)
          refine TW_one rfl (TL_callB [1, 2, 3, 4] [0, 5] (by decide) rfl rfl (he2 EntersC.en rfl rfl rfl) (fun w' hm hb => hcall w' hm hb) rfl rfl rfl ?_)
          rintro ⟨vs', vt'⟩ _
          conv => arg 8; simp only [zA, zB, zC, zD, zE, zF, zG, zH, zI, rowS, ret, id_eq, rowSp, dmL]
          conv => arg 7; simp only [rowSp]
          rw [hrp]
          dsimp only
          refine TW_on (sub_pick [] (by decide) rfl) ?_
          refine TW_one rfl (TL_litN (cs := (rowC r').toArray) [rowV r'] rfl rfl rfl (row_litn r') rfl (row_lit r') rfl fun g62 => (TW_on (sub_pick [] (by decide) rfl) ?_))
          refine TW_one rfl (TL_appSl (i := 1) (e := 73) (size := 256) (bytes := 512) (m := R.length) (xs := R.flatMap rowC) (k := 1) (ys := rowC r') rfl (sl_blk (i := 6) rfl (fun j u h => by simpa using h) (Nat.le_refl 1) (by decide)) rfl rfl (by rw [rowC_len]) (fun u hu => row_one [r'] u (by simpa using hu)) (by omega) (by omega) rfl fun vrows' => (TW_on (sub_pick [] (by decide) rfl) ?_))
          repeat (first
            | ((first | refine TW_plain rfl rfl ?_ | refine TW_gmet rfl rfl rfl rfl ?_); first | refine QW QP ?_ | refine QW (rr_nilc rfl) ?_ | refine QW QL ?_ | refine QW QA ?_ | refine QW (rr_nilc rfl) ?_ | refine QW QlT ?_ | refine QW QlF ?_ | refine QW QgT ?_ | refine QW QgF ?_ | refine QW QhT ?_ | refine QW QhF ?_ | refine QW QnT ?_ | refine QW QnF ?_ | refine QW QaA ?_ | refine QW QaS ?_)
            | refine TW_done ?_)
          refine TW_one rfl (TL_slv (i := 1) rfl fun hv1 hv2 => TL_store1 (i := 2) rfl rfl rfl hv1 hv2 rfl (TW_on (sub_pick [] (by decide) rfl) ?_))
          repeat (first
            | ((first | refine TW_plain rfl rfl ?_ | refine TW_gmet rfl rfl rfl rfl ?_); first | refine QW QP ?_ | refine QW QL ?_ | refine QW QA ?_ | refine QW (rr_nilc rfl) ?_ | refine QW QlT ?_ | refine QW QlF ?_ | refine QW QgT ?_ | refine QW QgF ?_ | refine QW QhT ?_ | refine QW QhF ?_ | refine QW QnT ?_ | refine QW QnF ?_ | refine QW QaA ?_ | refine QW QaS ?_)
            | refine TW_done ?_)
          refine E_pick [0, 2, 3, 4, 5, 1] (by decide) rfl ?_
          exact E_mid (vs', vrows', vt') trivial (by repeat' (first | exact True.intro | refine And.intro rfl ?_)) (by dsimp only; rw [row_snocR]; rfl)
        · refine TL_callB [1, 2, 3, 4] [0, 5] (by decide) rfl rfl (he2 EntersC.en rfl rfl rfl) (fun w' hm hb => hcall w' hm hb) rfl rfl rfl ?_
          rintro ⟨vs', vt'⟩ _
          conv => arg 8; simp only [zA, zB, zC, zD, zE, zF, zG, zH, zI, rowS, ret, id_eq, rowSp, dmL]
          conv => arg 7; simp only [rowSp]
          rw [hrp]
          dsimp only
          refine TW_on (sub_pick [] (by decide) rfl) ?_
          refine TW_two rfl rfl ?_ ?_
          · refine TL_val (rr_load1 (v := vrows) TyC.ty rfl (at_blk (i := 2) rfl rfl)) rfl rfl rfl (TW_on (sub_pick [] (by decide) rfl) ?_)
            refine TW_one rfl (TL_litN (cs := (rowC r').toArray) [rowV r'] rfl rfl rfl (row_litn r') rfl (row_lit r') rfl fun g62 => (TW_on (sub_pick [] (by decide) rfl) ?_))
            refine TW_one rfl (TL_appSl (i := 1) (e := 73) (size := 256) (bytes := 512) (m := R.length) (xs := R.flatMap rowC) (k := 1) (ys := rowC r') rfl (sl_blk (i := 6) rfl (fun j u h => by simpa using h) (Nat.le_refl 1) (by decide)) rfl rfl (by rw [rowC_len]) (fun u hu => row_one [r'] u (by simpa using hu)) (by omega) (by omega) rfl fun vrows' => (TW_on (sub_pick [] (by decide) rfl) ?_))
            repeat (first
              | ((first | refine TW_plain rfl rfl ?_ | refine TW_gmet rfl rfl rfl rfl ?_); first | refine QW QP ?_ | refine QW (rr_nilc rfl) ?_ | refine QW QL ?_ | refine QW QA ?_ | refine QW (rr_nilc rfl) ?_ | refine QW QlT ?_ | refine QW QlF ?_ | refine QW QgT ?_ | refine QW QgF ?_ | refine QW QhT ?_ | refine QW QhF ?_ | refine QW QnT ?_ | refine QW QnF ?_ | refine QW QaA ?_ | refine QW QaS ?_)
              | refine TW_done ?_)
            refine TW_one rfl (TL_slv (i := 1) rfl fun hv1 hv2 => TL_store1 (i := 2) rfl rfl rfl hv1 hv2 rfl (TW_on (sub_pick [] (by decide) rfl) ?_))
            repeat (first
              | ((first | refine TW_plain rfl rfl ?_ | refine TW_gmet rfl rfl rfl rfl ?_); first | refine QW QP ?_ | refine QW QL ?_ | refine QW QA ?_ | refine QW (rr_nilc rfl) ?_ | refine QW QlT ?_ | refine QW QlF ?_ | refine QW QgT ?_ | refine QW QgF ?_ | refine QW QhT ?_ | refine QW QhF ?_ | refine QW QnT ?_ | refine QW QnF ?_ | refine QW QaA ?_ | refine QW QaS ?_)
              | refine TW_done ?_)
            refine E_pick [0, 2, 3, 4, 5, 1] (by decide) rfl ?_
            exact E_mid (vs', vrows', vt') trivial (by repeat' (first | exact True.intro | refine And.intro rfl ?_)) (by dsimp only; rw [row_snocR]; rfl)
          · refine TL_litN (cs := (rowC r').toArray) [rowV r'] rfl rfl rfl (row_litn r') rfl (row_lit r') rfl fun g62 => (TW_on (sub_pick [] (by decide) rfl) ?_)
            refine TW_one rfl (TL_val (rr_load1 (v := vrows) TyC.ty rfl (at_blk (i := 2) rfl rfl)) rfl rfl rfl (TW_on (sub_pick [] (by decide) rfl) ?_))
            refine TW_one rfl (TL_appSl (i := 1) (e := 73) (size := 256) (bytes := 512) (m := R.length) (xs := R.flatMap rowC) (k := 1) (ys := rowC r') rfl (sl_blk (i := 6) rfl (fun j u h => by simpa using h) (Nat.le_refl 1) (by decide)) rfl rfl (by rw [rowC_len]) (fun u hu => row_one [r'] u (by simpa using hu)) (by omega) (by omega) rfl fun vrows' => (TW_on (sub_pick [] (by decide) rfl) ?_))
            repeat (first
              | ((first | refine TW_plain rfl rfl ?_ | refine TW_gmet rfl rfl rfl rfl ?_); first | refine QW QP ?_ | refine QW (rr_nilc rfl) ?_ | refine QW QL ?_ | refine QW QA ?_ | refine QW (rr_nilc rfl) ?_ | refine QW QlT ?_ | refine QW QlF ?_ | refine QW QgT ?_ | refine QW QgF ?_ | refine QW QhT ?_ | refine QW QhF ?_ | refine QW QnT ?_ | refine QW QnF ?_ | refine QW QaA ?_ | refine QW QaS ?_)
              | refine TW_done ?_)
            refine TW_one rfl (TL_slv (i := 1) rfl fun hv1 hv2 => TL_store1 (i := 2) rfl rfl rfl hv1 hv2 rfl (TW_on (sub_pick [] (by decide) rfl) ?_))
            repeat (first
              | ((first | refine TW_plain rfl rfl ?_ | refine TW_gmet rfl rfl rfl rfl ?_); first | refine QW QP ?_ | refine QW QL ?_ | refine QW QA ?_ | refine QW (rr_nilc rfl) ?_ | refine QW QlT ?_ | refine QW QlF ?_ | refine QW QgT ?_ | refine QW QgF ?_ | refine QW QhT ?_ | refine QW QhF ?_ | refine QW QnT ?_ | refine QW QnF ?_ | refine QW QaA ?_ | refine QW QaS ?_)
              | refine TW_done ?_)
            refine E_pick [0, 2, 3, 4, 5, 1] (by decide) rfl ?_
            exact E_mid (vs', vrows', vt') trivial (by repeat' (first | exact True.intro | refine And.intro rfl ?_)) (by dsimp only; rw [row_snocR]; rfl)
      clear hcall
      rintro ⟨vs', vrows', vt'⟩ _
      dsimp only
      refine T_know (i := 2) rfl row_slm fun hrow => ?_
      obtain ⟨ab', cs', rfl, hmS', -⟩ := hrow
      by_cases c2 : 200 < d'.S.length + 1
      · rw [if_pos c2] at i4
        have ho := outD_8 i4.symm
        unfold mkdSp
        rw [ho]
        repeat (first
          | refine QV QP ?_ | refine QZ ?_ | refine qcT rfl ?_ | refine qcF rfl ?_ | refine E_blockX ?_ | refine E_blockO rfl ?_ | refine QV (rr_nilc rfl) ?_
          | refine QV (rr_load1 (v := .slice ab' (d'.S.length + 1) cs') TyC.ty rfl (at_blk (i := 1) rfl rfl)) ?_
          | refine QV (rr_gtr (b := true) rfl rfl (decide_eq_true (by omega))) ?_ | refine QV (rr_build rfl hbz) ?_ | refine QV QL ?_ | refine QV QA ?_
          | refine QV (rr_nilc rfl) ?_ | refine QV QlT ?_ | refine QV QlF ?_ | refine QV QgT ?_ | refine QV QgF ?_ | refine QV QhT ?_ | refine QV QhF ?_
          | refine QV QnT ?_ | refine QV QnF ?_ | refine QV QaA ?_ | refine QV QaS ?_)
        refine TL_storeB (i := 0) rfl rfl rfl rfl rfl rfl ?_
        conv => arg 8; simp only [zA, zB, zC, zD, zE, zF, zG, zH, zI, rowS, ret, id_eq]
        repeat (first
          | refine QV QP ?_ | refine QZ ?_ | refine qcT rfl ?_ | refine qcF rfl ?_ | refine E_blockX ?_ | refine E_blockO rfl ?_ | refine QV QL ?_
          | refine QV QA ?_ | refine QV (rr_nilc rfl) ?_ | refine QV QlT ?_ | refine QV QlF ?_ | refine QV QgT ?_ | refine QV QgF ?_ | refine QV QhT ?_
          | refine QV QhF ?_ | refine QV QnT ?_ | refine QV QnF ?_ | refine QV QaA ?_ | refine QV QaS ?_)
        refine E_nilrow 73 256 (E_nilrow 3 1 ?_)
        exact E_retc2 (i := 0) rfl rfl rfl rfl rfl fun w hm => hm.meets (S := ⟨fun (_ : Value × Value) => True, fun x => .tuple #[dfaV x.1 x.2, .int .i64 8], fun x => [rowO 73 256 x.1 0 [], rowO 3 1 x.2 0 []]⟩) (.slice none 0 0, .slice none 0 0) trivial [6, 7] (by decide) rfl
      · rw [if_neg c2] at i4
        repeat (first
          | refine QV QP ?_ | refine QZ ?_ | refine qcT rfl ?_ | refine qcF rfl ?_ | refine E_blockX ?_ | refine E_blockO rfl ?_ | refine QV (rr_nilc rfl) ?_
          | refine QV (rr_load1 (v := .slice ab' (d'.S.length + 1) cs') TyC.ty rfl (at_blk (i := 1) rfl rfl)) ?_
          | refine QV (rr_gtr (b := false) rfl rfl (decide_eq_false (by omega))) ?_ | refine QV QL ?_ | refine QV QA ?_ | refine QV (rr_nilc rfl) ?_
          | refine QV QlT ?_ | refine QV QlF ?_ | refine QV QgT ?_ | refine QV QgF ?_ | refine QV QhT ?_ | refine QV QhF ?_ | refine QV QnT ?_ | refine QV QnF ?_
          | refine QV QaA ?_ | refine QV QaS ?_)
        exact E_round (n + 1, R ++ [r'], d', .slice ab' (d'.S.length + 1) cs', vrows', vt') ⟨by rw [List.length_append, i0]; rfl, by show n + 1 ≤ d'.S.length + 1; omega, s1, by show d'.S.length + 1 ≤ 200; omega, i4⟩ (by show 201 - (n + 1) < 201 - n; omega) (by repeat' (first | exact True.intro | refine And.intro rfl ?_)) rfl
    · have i5 : makeD m = some (R, d) := by
        rw [← i4, show 201 - n = (201 - (n + 1)) + 1 by omega, make_step, if_neg c1]
      have ho := outD_0 i5
      unfold mkdSp
      rw [ho]
      refine T_know (i := 4) rfl row_slm fun hrow => ?_
      obtain ⟨at', ct', rfl, -⟩ := hrow
      refine T_know (i := 5) rfl row_slm fun hrow => ?_
      obtain ⟨ar', cr', rfl, -⟩ := hrow
      repeat (first
        | refine QV QP ?_ | refine QZ ?_ | refine qcT rfl ?_ | refine qcF rfl ?_ | refine E_blockX ?_ | refine E_blockO rfl ?_ | refine QV (rr_nilc rfl) ?_
        | refine QV (rr_load1 (v := .slice ab (d.S.length + 1) cs) TyC.ty rfl (at_blk (i := 1) rfl rfl)) ?_
        | refine QV (rr_lss (b := false) rfl rfl (decide_eq_false (by omega))) ?_
        | refine QV (rr_loadN (cs := [.slice ar' R.length cr', .slice at' d.tags.length ct']) TyC.ty rfl rfl (fun j v hj => at_blk (i := 1) rfl (dmc_at hj))) ?_
        | refine QV QL ?_ | refine QV QA ?_ | refine QV (rr_nilc rfl) ?_ | refine QV QlT ?_ | refine QV QlF ?_ | refine QV QgT ?_ | refine QV QgF ?_
        | refine QV QhT ?_ | refine QV QhF ?_ | refine QV QnT ?_ | refine QV QnF ?_ | refine QV QaA ?_ | refine QV QaS ?_)
      refine TL_storeB (i := 0) (cs' := #[.slice ar' R.length cr', .slice at' d.tags.length ct']) rfl rfl rfl rfl rfl rfl ?_
      conv => arg 8; simp only [zA, zB, zC, zD, zE, zF, zG, zH, zI, rowS, ret, id_eq]
      repeat (first
        | refine QV QP ?_ | refine QZ ?_ | refine qcT rfl ?_ | refine qcF rfl ?_ | refine E_blockX ?_ | refine E_blockO rfl ?_ | refine QV QL ?_
        | refine QV QA ?_ | refine QV (rr_nilc rfl) ?_ | refine QV QlT ?_ | refine QV QlF ?_ | refine QV QgT ?_ | refine QV QgF ?_ | refine QV QhT ?_
        | refine QV QhF ?_ | refine QV QnT ?_ | refine QV QnF ?_ | refine QV QaA ?_ | refine QV QaS ?_)
      exact E_retc2 (i := 0) rfl rfl rfl rfl rfl fun w hm => hm.meets (S := ⟨fun (_ : Value × Value) => True, fun x => .tuple #[dfaV x.1 x.2, .int .i64 0], fun x => [rowO 73 256 x.1 R.length (R.flatMap rowC), intR x.2 d.tags]⟩) (.slice ar' R.length cr', .slice at' d.tags.length ct') trivial [5, 4] (by decide) rfl
end Go.Proofs.YtkcnoompimohnaaDoor.eng

/- Made -/
namespace Go.Proofs.YtkcnoompimohnaaDoor.eng
open Go.RowKit kit mix classL rexL placesL dfaP smallL
def mdSp (x : List Row × List Int × Bool) : Spec (Value × Value) := ⟨fun _ => True, fun v => .tuple #[dfaV v.1 v.2, .bool x.2.2], fun v => [rowO 73 256 v.1 x.1.length (x.1.flatMap rowC), intR v.2 x.2.1]⟩
/-- what rules are made into -/
def MadeR (rs : List Rx) (x : List Row × List Int × Bool) : Prop :=
  (∃ k : Int, k ≠ 0 ∧ MakeR rs (k, .zero) ∧ x = ([], [], false)) ∨ ∃ (es : List Re) (m : MS), rs = es.map emb ∧ (∀ e ∈ es, Fit e 1 0) ∧ 0 < es.length ∧ es.length ≤ 20 ∧ loopM 0 .zero es = (0, m) ∧ MakeR rs (0, m) ∧ x = ((outD m).1, (outD m).2.1, decide ((outD m).2.2 = 0))
theorem madeR_of (rs : List Rx) : ∃ x, MadeR rs x := by
  rcases makeR_two rs with ⟨k, h1, h2⟩ | ⟨es, m, h1, h2, h3, h4, h5, h6⟩
  · exact ⟨_, .inl ⟨k, h1, h2, rfl⟩⟩
  · exact ⟨_, .inr ⟨es, m, h1, h2, h3, h4, h5, h6, rfl⟩⟩
set_option maxHeartbeats 4000000 in
theorem made_calls (v : Value) (rs : List Rx) (x : List Row × List Int × Bool) (w : World) (hv : SlF rexS (Low w) w v rs) (hx : MadeR rs x) :
    Calls Tryd.prog 5 #[v] w (Meets (mdSp x) w) := by
  have hvg := fun w' (hg : Gr w w') => slr_gr hv hg
  obtain ⟨bk, ck, rfl, -⟩ := hv
  have hbz := build_dfaz
  rcases hx with ⟨k, hk, hR, rfl⟩ | ⟨es, m, rfl, hfit, h0, h20, hlp, hR, rfl⟩
  · have hmk := fun w' (hg : Gr w w') => make_calls (.slice bk rs.length ck) rs (k, .zero) w' (hvg w' hg) hR
    refine enter (args := [.slice bk rs.length ck]) (n := 23) Tryd.func5 rfl rfl rfl ?_
    refine T_seq (T_region (TL_new rfl fun g2 => ?_))
    conv => arg 8; simp only [zA, zB, zC, zD, zE, zF, zG, zH, zI, rowS, ret, id_eq]
    repeat (first
      | refine QV QP ?_ | refine QZ ?_ | refine qcT rfl ?_ | refine qcF rfl ?_ | refine QV QeT ?_ | refine QV QeF ?_ | refine QV QnT ?_ | refine QV QnF ?_)
    refine TL_call (he1 EntersC.en rfl rfl) (fun w hm => hmk _ hm.below) rfl rfl rfl ?_
    rintro ⟨vc1, vr1, vf1, vfol1, vl1, ve1, vs1, F1⟩ hx1
    conv => arg 8; simp only [zA, zB, zC, zD, zE, zF, zG, zH, zI, rowS, ret, id_eq, makeSp, posL, posC]
    conv => arg 7; simp only [makeSp, posC]
    refine TL_slv (i := 1) rfl fun _ a1 => TL_slv (i := 2) rfl fun _ a2 => TL_slv (i := 3) rfl fun _ a3 => TL_slv (i := 4) rfl fun _ a4 => TL_slv (i := 6) rfl fun _ a5 => TL_slv (i := 7) rfl fun _ a6 => ?_
    repeat (first
      | refine QV QP ?_ | refine QZ ?_ | refine qcT rfl ?_ | refine qcF rfl ?_ | refine QV QeT ?_ | refine QV QeF ?_ | refine QV QnT ?_ | refine QV QnF ?_)
    refine TL_new rfl fun g4 => ?_
    conv => arg 8; simp only [zA, zB, zC, zD, zE, zF, zG, zH, zI, rowS, ret, id_eq]
    refine TL_storeB (i := 8) (cs' := #[vc1, vr1, vf1, vfol1, vl1, ve1]) rfl rfl rfl rfl (by simp only [List.all_cons, List.all_nil, a1, a2, a3, a4, a5, a6]; rfl) rfl ?_
    conv => arg 8; simp only [zA, zB, zC, zD, zE, zF, zG, zH, zI, rowS, ret, id_eq]
    repeat (first
      | refine QV QP ?_ | refine QZ ?_ | refine qcT rfl ?_ | refine qcF rfl ?_ | refine QV (rr_neq (b := true) rfl rfl (decide_eq_true hk)) ?_
      | refine QV (rr_build rfl hbz) ?_ | refine QV QeT ?_ | refine QV QeF ?_ | refine QV QnT ?_ | refine QV QnF ?_)
    refine TL_storeB (i := 0) rfl rfl rfl rfl rfl rfl ?_
    conv => arg 8; simp only [zA, zB, zC, zD, zE, zF, zG, zH, zI, rowS, ret, id_eq]
    repeat (first
      | refine QV QP ?_ | refine QZ ?_ | refine qcT rfl ?_ | refine qcF rfl ?_ | refine QV QeT ?_ | refine QV QeF ?_ | refine QV QnT ?_ | refine QV QnF ?_)
    refine E_nilrow 73 256 (E_nilrow 3 1 ?_)
    exact E_retc2 (i := 0) rfl rfl rfl rfl rfl fun w hm => hm.meets (S := mdSp ([], [], false)) (.slice none 0 0, .slice none 0 0) trivial [9, 10] (by decide) rfl
  · have hmk := fun w' (hg : Gr w w') => make_calls (.slice bk (es.map emb).length ck) (es.map emb) (0, m) w' (hvg w' hg) hR
    have hok := make_ok h0 h20 hlp
    have hdm := fun v' w' h => dfaMake_calls v' m w' h hok
    unfold mkdSp at hdm
    generalize outD m = D at *
    obtain ⟨R, T, e⟩ := D
    dsimp only at hdm ⊢
    refine enter (args := [.slice bk (es.map emb).length ck]) (n := 23) Tryd.func5 rfl rfl rfl ?_
    refine T_seq (T_region (TL_new rfl fun g2 => ?_))
    conv => arg 8; simp only [zA, zB, zC, zD, zE, zF, zG, zH, zI, rowS, ret, id_eq]
    repeat (first
      | refine QV QP ?_ | refine QZ ?_ | refine qcT rfl ?_ | refine qcF rfl ?_ | refine QV QeT ?_ | refine QV QeF ?_ | refine QV QnT ?_ | refine QV QnF ?_)
    refine TL_call (he1 EntersC.en rfl rfl) (fun w hm => hmk _ hm.below) rfl rfl rfl ?_
    rintro ⟨vc1, vr1, vf1, vfol1, vl1, ve1, vs1, F1⟩ hx1
    have hx1 : vs1.length = m.ps.follow.length := hx1
    conv => arg 8; simp only [zA, zB, zC, zD, zE, zF, zG, zH, zI, rowS, ret, id_eq, makeSp, posL, posC]
    conv => arg 7; simp only [makeSp, posC]
    refine TL_slv (i := 1) rfl fun _ a1 => TL_slv (i := 2) rfl fun _ a2 => TL_slv (i := 3) rfl fun _ a3 => TL_slv (i := 4) rfl fun _ a4 => TL_slv (i := 6) rfl fun _ a5 => TL_slv (i := 7) rfl fun _ a6 => ?_
    repeat (first
      | refine QV QP ?_ | refine QZ ?_ | refine qcT rfl ?_ | refine qcF rfl ?_ | refine QV QeT ?_ | refine QV QeF ?_ | refine QV QnT ?_ | refine QV QnF ?_)
    refine TL_new rfl fun g4 => ?_
    conv => arg 8; simp only [zA, zB, zC, zD, zE, zF, zG, zH, zI, rowS, ret, id_eq]
    refine TL_storeB (i := 8) (cs' := #[vc1, vr1, vf1, vfol1, vl1, ve1]) rfl rfl rfl rfl (by simp only [List.all_cons, List.all_nil, a1, a2, a3, a4, a5, a6]; rfl) rfl ?_
    conv => arg 8; simp only [zA, zB, zC, zD, zE, zF, zG, zH, zI, rowS, ret, id_eq]
    clear a1 a2 a3 a4 a5 a6
    repeat (first
      | refine QV QP ?_ | refine QZ ?_ | refine qcT rfl ?_ | refine qcF rfl ?_ | refine QV (rr_neq (b := false) rfl rfl (decide_eq_false (by simp))) ?_
      | refine QV (rr_loadB (i := 8) TyC.ty rfl rfl rfl) ?_ | refine QV QeT ?_ | refine QV QeF ?_ | refine QV QnT ?_ | refine QV QnF ?_)
    refine TL_call (he1 EntersC.en rfl rfl) (fun w hm => hdm _ w (hm.posR (x := ⟨vc1, vr1, vf1, vfol1, vl1, ve1, vs1, F1⟩) 1 hx1 rfl (by simp))) rfl rfl rfl ?_
    rintro ⟨vrr, vtt⟩ _
    conv => arg 8; simp only [zA, zB, zC, zD, zE, zF, zG, zH, zI, rowS, ret, id_eq, dfaV]
    conv => arg 7; simp only [dfaV]
    refine TL_slv (i := 9) rfl fun _ a1 => TL_slv (i := 10) rfl fun _ a2 => ?_
    repeat (first
      | refine QV QP ?_ | refine QZ ?_ | refine qcT rfl ?_ | refine qcF rfl ?_ | refine QV QeT ?_ | refine QV QeF ?_ | refine QV QnT ?_ | refine QV QnF ?_)
    refine TL_new rfl fun g6 => ?_
    conv => arg 8; simp only [zA, zB, zC, zD, zE, zF, zG, zH, zI, rowS, ret, id_eq]
    refine TL_storeB (i := 11) (cs' := #[vrr, vtt]) rfl rfl rfl rfl (by simp only [List.all_cons, List.all_nil, a1, a2]; rfl) rfl ?_
    conv => arg 8; simp only [zA, zB, zC, zD, zE, zF, zG, zH, zI, rowS, ret, id_eq]
    repeat (first
      | refine QV QP ?_ | refine QZ ?_ | refine qcT rfl ?_ | refine qcF rfl ?_ | refine QV (rr_loadB (i := 11) TyC.ty rfl rfl rfl) ?_
      | refine QV (rr_eql (b := decide (e = 0)) rfl rfl rfl) ?_ | refine QV QeT ?_ | refine QV QeF ?_ | refine QV QnT ?_ | refine QV QnF ?_)
    refine TL_storeB (i := 0) (cs' := #[vrr, vtt]) rfl rfl rfl rfl (by simp only [List.all_cons, List.all_nil, a1, a2]; rfl) rfl ?_
    conv => arg 8; simp only [zA, zB, zC, zD, zE, zF, zG, zH, zI, rowS, ret, id_eq]
    repeat (first
      | refine QV QP ?_ | refine QZ ?_ | refine qcT rfl ?_ | refine qcF rfl ?_ | refine QV QeT ?_ | refine QV QeF ?_ | refine QV QnT ?_ | refine QV QnF ?_)
    exact E_retc2 (i := 0) rfl rfl rfl rfl rfl fun w hm => hm.meets (S := mdSp (R, T, decide (e = 0))) (vrr, vtt) trivial [9, 10] (by decide) rfl
end Go.Proofs.YtkcnoompimohnaaDoor.eng

/- DfQ -/
namespace Go.Proofs.YtkcnoompimohnaaDoor.dfaP
open classL rexL placesL smallL
open eng (chk aut row0 ok_chk)
/-! ### sets -/
theorem next_mem {p : PS} (hp : PSOk p) (h2 : p.classes.length ≤ 200) (s : C4) (j : Nat) (hj : j < 256) : ∀ k, (nextTo p s k).mem j = true ↔ ∃ i, i < k ∧ s.mem i = true ∧ (j : Int) ∈ p.follow.getD i []
  | 0 => by
    show C4.zero.mem j = true ↔ _
    rw [zero_mem]
    exact ⟨fun h => (by cases h), fun ⟨i, hi, _⟩ => absurd hi (Nat.not_lt_zero i)⟩
  | k + 1 => by
    have ih := next_mem hp h2 s j hj k
    have hr : ∀ x ∈ p.follow.getD k [], 0 ≤ x ∧ x < 256 := fun x hx => by
      rw [List.getD_eq_getElem?_getD] at hx
      cases e : p.follow[k]? with
      | none => rw [e] at hx; cases hx
      | some l =>
        rw [e] at hx
        have := (hp.ris l (List.mem_of_getElem? e)).2 x hx
        omega
    have e : nextTo p s (k + 1) = if s.mem k = true then putAll (nextTo p s k) (p.follow.getD k []) else nextTo p s k := rfl
    rw [e]
    by_cases c : s.mem k = true
    · rw [if_pos c, putAll_mem _ _ _ hj hr, ih]
      constructor
      · rintro (⟨i, h1, h3⟩ | h)
        · exact ⟨i, Nat.lt_succ_of_lt h1, h3⟩
        · exact ⟨k, Nat.lt_succ_self k, c, h⟩
      · rintro ⟨i, h1, h3, h4⟩
        by_cases ei : i = k
        · subst ei; exact .inr h4
        · exact .inl ⟨i, by omega, h3, h4⟩
    · rw [if_neg c, ih]
      constructor
      · rintro ⟨i, h1, h3⟩; exact ⟨i, Nat.lt_succ_of_lt h1, h3⟩
      · rintro ⟨i, h1, h3, h4⟩
        by_cases ei : i = k
        · subst ei; exact absurd h3 c
        · exact ⟨i, by omega, h3, h4⟩
theorem to_mem {p : PS} (all : C4) (b j : Nat) (hj : j < 256) : ∀ k, k ≤ 256 → ((toTo p all b k).mem j = true ↔ j < k ∧ all.mem j = true ∧ (p.classes.getD j C4.zero).mem b = true)
  | 0, _ => by
    show C4.zero.mem j = true ↔ _
    rw [zero_mem]
    exact ⟨fun h => (by cases h), fun ⟨hi, _⟩ => absurd hi (Nat.not_lt_zero j)⟩
  | k + 1, hk => by
    have ih := to_mem (p := p) all b j hj k (by omega)
    have e : toTo p all b (k + 1) = if all.mem k = true ∧ (p.classes.getD k C4.zero).mem b = true then (toTo p all b k).bit k else toTo p all b k := rfl
    rw [e]
    by_cases c : all.mem k = true ∧ (p.classes.getD k C4.zero).mem b = true
    · rw [if_pos c, bit_mem _ _ _ (by omega) hj, Bool.or_eq_true, decide_eq_true_eq, ih]
      constructor
      · rintro (⟨h1, h2⟩ | rfl)
        · exact ⟨by omega, h2⟩
        · exact ⟨Nat.lt_succ_self _, c⟩
      · rintro ⟨h1, h2⟩
        by_cases ej : j = k
        · exact .inr ej
        · exact .inl ⟨by omega, h2⟩
    · rw [if_neg c, ih]
      constructor
      · rintro ⟨h1, h2⟩; exact ⟨by omega, h2⟩
      · rintro ⟨h1, h2⟩
        by_cases ej : j = k
        · subst ej; exact absurd h2 c
        · exact ⟨by omega, h2⟩
/-! ### what Make has made -/
def cellT (p : PS) (S : List C4) (all : C4) (b : Nat) : Int := if toF p all b = C4.zero then -1 else ((idx S (toF p all b) + 1 : Nat) : Int)
def CellOk (p : PS) (S : List C4) (all : C4) (b : Nat) (x : Int) : Prop := x = cellT p S all b ∧ (toF p all b = C4.zero ∨ toF p all b ∈ S)
theorem CellOk.app {p : PS} {S : List C4} {all : C4} {b : Nat} {x : Int} (h : CellOk p S all b x) (E : List C4) : CellOk p (S ++ E) all b x := by
  obtain ⟨h1, h2⟩ := h
  refine ⟨?_, h2.imp id fun h => List.mem_append_left _ h⟩
  rw [h1]
  unfold cellT
  by_cases c : toF p all b = C4.zero
  · rw [if_pos c, if_pos c]
  · rw [if_neg c, if_neg c, idx_pre (h2.resolve_left c)]
/-- tags -/
def TagsOk (p : PS) (t0 : Int) (d : DM) : Prop := d.tags = t0 :: d.S.map (dfaP.tagF p)
theorem state_law (p : PS) (t0 : Int) (d : DM) (s : C4) : (∃ E, (stateF p d s).2.S = d.S ++ E) ∧ s ∈ (stateF p d s).2.S ∧ (stateF p d s).1 = idx (stateF p d s).2.S s + 1 ∧ (TagsOk p t0 d → TagsOk p t0 (stateF p d s).2) := by
  unfold stateF
  by_cases c : s ∈ d.S
  · rw [if_pos c]
    exact ⟨⟨[], (List.append_nil _).symm⟩, c, rfl, id⟩
  · rw [if_neg c]
    refine ⟨⟨[s], rfl⟩, List.mem_append_right _ (List.mem_singleton.2 rfl), ?_, fun h => ?_⟩
    · show d.S.length + 1 = idx (d.S ++ [s]) s + 1
      unfold idx
      rw [List.idxOf_append, if_neg c]
      simp
    · show d.tags ++ [dfaP.tagF p s] = t0 :: (d.S ++ [s]).map (dfaP.tagF p)
      rw [h, List.map_append]; rfl
theorem cell_law (p : PS) (t0 : Int) (all : C4) (b : Nat) (hb : b < 256) (r : Row) (d : DM) : (∃ E, (cellF p all b r d).2.S = d.S ++ E) ∧ (∀ c (h : c < 256), c ≠ b → (cellF p all b r d).1[c] = r[c]) ∧ CellOk p (cellF p all b r d).2.S all b ((cellF p all b r d).1[b]) ∧ (TagsOk p t0 d → TagsOk p t0 (cellF p all b r d).2) := by
  unfold cellF
  by_cases c : toF p all b = C4.zero
  · rw [if_pos c, dif_pos hb]
    refine ⟨⟨[], (List.append_nil _).symm⟩, fun c' h hc => ?_, ⟨?_, .inl c⟩, id⟩
    · exact Vector.getElem_set_ne hb h (Ne.symm hc)
    · rw [Vector.getElem_set_self hb]; unfold cellT; rw [if_pos c]
  · rw [if_neg c, dif_pos hb]
    obtain ⟨h1, h2, h3, h4⟩ := state_law p t0 d (toF p all b)
    refine ⟨h1, fun c' h hc => ?_, ⟨?_, .inr h2⟩, h4⟩
    · dsimp only
      rw [Vector.getElem_set_ne hb h (Ne.symm hc), Vector.getElem_set_ne hb h (Ne.symm hc)]
    · dsimp only
      rw [Vector.getElem_set_self hb, h3]; unfold cellT; rw [if_neg c]
theorem row_law (p : PS) (t0 : Int) (all : C4) : ∀ (f b : Nat) (r : Row) (d : DM), b + f = 256 → (rowTo p all f b r d).2.S.length + 1 ≤ 200 →
    (∃ E, (rowTo p all f b r d).2.S = d.S ++ E) ∧ (∀ c (h : c < 256), c < b → (rowTo p all f b r d).1[c] = r[c]) ∧ (∀ c (h : c < 256), b ≤ c → CellOk p (rowTo p all f b r d).2.S all c ((rowTo p all f b r d).1[c])) ∧ (TagsOk p t0 d → TagsOk p t0 (rowTo p all f b r d).2)
  | 0, b, r, d, hbf, _ => ⟨⟨[], (List.append_nil _).symm⟩, fun _ _ _ => rfl, fun c h hc => by omega, id⟩
  | f + 1, b, r, d, hbf, hl => by
    obtain ⟨⟨E1, h1⟩, h2, h3, h4⟩ := cell_law p t0 all b (by omega) r d
    have e : rowTo p all (f + 1) b r d = if 200 < (cellF p all b r d).2.S.length + 1 then cellF p all b r d else rowTo p all f (b + 1) (cellF p all b r d).1 (cellF p all b r d).2 := rfl
    rw [e] at hl ⊢
    by_cases c : 200 < (cellF p all b r d).2.S.length + 1
    · rw [if_pos c] at hl; omega
    · rw [if_neg c] at hl ⊢
      obtain ⟨⟨E2, q1⟩, q2, q3, q4⟩ := row_law p t0 all f (b + 1) _ _ (by omega) hl
      refine ⟨⟨E1 ++ E2, by rw [q1, h1, List.append_assoc]⟩, fun c' h hc => ?_, fun c' h hc => ?_, fun h => q4 (h4 h)⟩
      · rw [q2 c' h (by omega), h2 c' h (by omega)]
      · by_cases ec : c' = b
        · subst ec
          rw [q2 c' h (by omega), q1]
          exact h3.app E2
        · exact q3 c' h (by omega)
theorem nextF_app (m : MS) (S E : List C4) {n : Nat} (h : n ≤ S.length) : nextF m (S ++ E) n = nextF m S n := by
  cases n with
  | zero => rfl
  | succ n =>
    show nextTo m.ps ((S ++ E).getD n C4.zero) _ = nextTo m.ps (S.getD n C4.zero) _
    rw [getD_left (by omega)]
structure MkI (m : MS) (t0 : Int) (n : Nat) (R : List Row) (d : DM) : Prop where
  len : R.length = n
  le : n ≤ d.S.length + 1
  few : d.S.length + 1 ≤ 200
  cell : ∀ q, q < n → ∀ c (h : c < 256), CellOk m.ps d.S (nextF m d.S q) c ((R.getD q row0)[c])
  tags : TagsOk m.ps t0 d
theorem make_law (m : MS) (t0 : Int) : ∀ (f n : Nat) (R : List Row) (d : DM) (R' : List Row) (d' : DM), makeTo m f n R d = some (R', d') → MkI m t0 n R d → MkI m t0 (d'.S.length + 1) R' d'
  | 0, _, _, _, _, _, h, _ => by cases h
  | f + 1, n, R, d, R', d', h, hi => by
    have e : makeTo m (f + 1) n R d = if n < d.S.length + 1 then (if 200 < (rowP m n d).2.S.length + 1 then none else makeTo m f (n + 1) (R ++ [(rowP m n d).1]) (rowP m n d).2) else some (R, d) := rfl
    rw [e] at h
    by_cases c1 : n < d.S.length + 1
    · rw [if_pos c1] at h
      by_cases c2 : 200 < (rowP m n d).2.S.length + 1
      · rw [if_pos c2] at h; cases h
      · rw [if_neg c2] at h
        refine make_law m t0 f (n + 1) _ _ R' d' h ?_
        obtain ⟨⟨E, q1⟩, _, q3, q4⟩ := row_law m.ps t0 (nextF m d.S n) 256 0 (Vector.replicate 256 0) d rfl (by show (rowP m n d).2.S.length + 1 ≤ 200; omega)
        have q1 : (rowP m n d).2.S = d.S ++ E := q1
        have q3 : ∀ c (h : c < 256), 0 ≤ c → CellOk m.ps (rowP m n d).2.S (nextF m d.S n) c ((rowP m n d).1[c]) := q3
        have hlen := congrArg List.length q1
        rw [List.length_append] at hlen
        refine ⟨by rw [List.length_append, hi.len]; rfl, by omega, by omega, fun q hq c hc => ?_, q4 hi.tags⟩
        by_cases eq : q = n
        · subst eq
          rw [getD_right (by rw [hi.len]; exact Nat.le_refl _), hi.len, Nat.sub_self]
          show CellOk m.ps (rowP m q d).2.S (nextF m (rowP m q d).2.S q) c ((rowP m q d).1[c])
          rw [q1, nextF_app m d.S E (by omega), ← q1]
          exact q3 c hc (Nat.zero_le _)
        · rw [getD_left (by rw [hi.len]; omega), q1, nextF_app m d.S E (by omega)]
          exact (hi.cell q (by omega) c hc).app E
    · rw [if_neg c1] at h
      simp only [Option.some.injEq, Prod.mk.injEq] at h
      obtain ⟨rfl, rfl⟩ := h
      have : n = d.S.length + 1 := by have := hi.le; omega
      rw [← this]; exact hi
theorem makeD_law {m : MS} {R : List Row} {d : DM} (h : makeD m = some (R, d)) : MkI m (firstT m.empty 0) (d.S.length + 1) R d :=
  make_law m (firstT m.empty 0) 201 0 [] ⟨[], [firstT m.empty 0]⟩ R d h ⟨rfl, Nat.zero_le _, by show 0 + 1 ≤ 200; decide, fun q hq => absurd hq (Nat.not_lt_zero q), rfl⟩
/-! ### going along -/
/-- a state and the places that it stands for -/
def RelQ (S : List C4) (q : Int) (now : List Int) : Prop := (q = -1 ∧ now = []) ∨ ∃ n, ∃ h : n < S.length, q = ((n + 1 : Nat) : Int) ∧ (∀ i : Nat, i < 256 → (S[n].mem i = true ↔ (i : Int) ∈ now)) ∧ ∀ x ∈ now, 0 ≤ x ∧ x < 200
theorem row_getD (R : List Row) (q c : Nat) (h : c < 256) : ((R.getD q row0).toList.getD c 0) = (R.getD q row0)[c] := by
  rw [List.getD_eq_getElem?_getD, List.getElem?_eq_getElem (by simpa using h), Option.getD_some, Vector.getElem_toList]
theorem step_rel {m : MS} {R : List Row} {d : DM} (hm : MOkP m) (hi : MkI m (firstT m.empty 0) (d.S.length + 1) R d) (tags : List Int) (n : Nat) (hn : n ≤ d.S.length) (now : List Int) (isF : Bool) (b : UInt8)
    (hs : (n = 0 ∧ isF = true ∧ now = []) ∨ (isF = false ∧ RelQ d.S (n : Int) now ∧ n ≠ 0)) : RelQ d.S (dt (aut R tags) (n : Int) b.toNat) (stepP m now isF b.toNat) := by
  have hb : b.toNat < 256 := b.toNat_lt
  have hcell := hi.cell n (by omega) b.toNat hb
  have hps := hm.ok.ps
  have hmem : ∀ j : Nat, j < 256 → ((toF m.ps (nextF m d.S n) b.toNat).mem j = true ↔ (j : Int) ∈ stepP m now isF b.toNat) := fun j hj => by
    unfold toF
    rw [to_mem _ _ _ hj _ (by have := hm.few; omega)]
    unfold stepP
    rw [trues_mem]
    have hins := insF_get hm now isF b.toNat j
    have hnx : (nextF m d.S n).mem j = true ↔ (isF = true ∧ (j : Int) ∈ m.first) ∨ ∃ x ∈ now, (j : Int) ∈ m.ps.follow.getD x.toNat [] := by
      rcases hs with ⟨rfl, rfl, rfl⟩ | ⟨rfl, hR, h0⟩
      · show (putAll C4.zero m.first).mem j = true ↔ _
        rw [putAll_mem _ _ _ hj (fun x hx => by have := hm.ok.first.2 x hx; have := hm.few; omega), zero_mem]
        constructor
        · rintro (h | h)
          · cases h
          · exact .inl ⟨rfl, h⟩
        · rintro (h | ⟨x, hx, _⟩)
          · exact .inr h.2
          · cases hx
      · obtain ⟨k, rfl⟩ : ∃ k, n = k + 1 := ⟨n - 1, by omega⟩
        rcases hR with ⟨h, _⟩ | ⟨k', hk', e, h1, h2⟩
        · omega
        · obtain rfl : k' = k := by omega
          show (nextTo m.ps (d.S.getD k' C4.zero) m.ps.follow.length).mem j = true ↔ _
          rw [next_mem hps hm.few _ _ hj, List.getD_eq_getElem?_getD, List.getElem?_eq_getElem hk', Option.getD_some]
          constructor
          · rintro ⟨i, h3, h4, h5⟩
            refine .inr ⟨(i : Int), (h1 i (by have := hps.follow; have := hm.few; omega)).1 h4, ?_⟩
            rw [Int.toNat_natCast]; exact h5
          · rintro (h | ⟨x, hx, h3⟩)
            · cases h.1
            · have hx2 := h2 x hx
              obtain ⟨i, rfl⟩ := Int.eq_ofNat_of_zero_le hx2.1
              rw [Int.toNat_natCast] at h3
              refine ⟨i, ?_, (h1 i (by omega)).2 hx, h3⟩
              rcases Nat.lt_or_ge i m.ps.follow.length with h | h
              · exact h
              · rw [List.getD_eq_getElem?_getD, List.getElem?_eq_none h] at h3; cases h3
    have hin : (insF m.ps m.first now isF b.toNat).getD j false = true → j < m.ps.classes.length := fun h => insF_in hm now isF b.toNat h
    constructor
    · rintro ⟨h1, h2, h3⟩
      refine ⟨j, rfl, by have := hm.few; omega, hins.2 ⟨h3, hnx.1 h2⟩⟩
    · rintro ⟨i, e, h1, h2⟩
      obtain rfl : i = j := by omega
      have := hins.1 h2
      exact ⟨hin h2, hnx.2 this.2, this.1⟩
  have hrange : ∀ x ∈ stepP m now isF b.toNat, 0 ≤ x ∧ x < 200 := fun x hx => by
    obtain ⟨i, rfl, hi, _⟩ := trues_mem.1 hx
    omega
  have hdt : dt (aut R tags) (n : Int) b.toNat = (R.getD n row0)[b.toNat] := by
    unfold dt
    rw [if_neg (by omega), Int.toNat_natCast]
    exact row_getD R n b.toNat hb
  rw [hdt, hcell.1]
  unfold cellT
  by_cases c : toF m.ps (nextF m d.S n) b.toNat = C4.zero
  · rw [if_pos c]
    refine .inl ⟨rfl, ?_⟩
    rw [c] at hmem
    cases e : stepP m now isF b.toNat with
    | nil => rfl
    | cons x l =>
      have hx := hrange x (by rw [e]; exact List.mem_cons_self ..)
      obtain ⟨i, rfl⟩ := Int.eq_ofNat_of_zero_le hx.1
      have := (hmem i (by omega)).2 (by rw [e]; exact List.mem_cons_self ..)
      rw [zero_mem] at this; cases this
  · rw [if_neg c]
    have hin := hcell.2.resolve_left c
    have hlt := idx_lt hin
    refine .inr ⟨_, hlt, rfl, fun i h => ?_, hrange⟩
    rw [idx_get hlt]
    exact hmem i h
theorem step_nil {m : MS} (hm : MOkP m) (b : Nat) : stepP m [] false b = [] := by
  cases e : stepP m [] false b with
  | nil => rfl
  | cons x l =>
    have hx : x ∈ stepP m [] false b := by rw [e]; exact List.mem_cons_self ..
    obtain ⟨i, rfl, _, h⟩ := trues_mem.1 hx
    rcases ((insF_get hm [] false b i).1 h).2 with h | ⟨x, hx, _⟩
    · cases h.1
    · cases hx
theorem go_rel {m : MS} {R : List Row} {d : DM} (hm : MOkP m) (hi : MkI m (firstT m.empty 0) (d.S.length + 1) R d) (tags : List Int) : ∀ (s : List UInt8) (q : Int) (now : List Int), RelQ d.S q now → RelQ d.S (go (aut R tags) q s) (s.foldl (fun now (b : UInt8) => stepP m now false b.toNat) now)
  | [], _, _, h => h
  | b :: s, q, now, h => by
    show RelQ d.S (go (aut R tags) (dt (aut R tags) q b.toNat) s) (s.foldl _ (stepP m now false b.toNat))
    refine go_rel hm hi tags s _ _ ?_
    rcases h with ⟨rfl, rfl⟩ | h
    · rw [step_nil hm]; exact .inl ⟨rfl, rfl⟩
    · obtain ⟨n, hn, rfl, h1⟩ := h
      exact step_rel hm hi tags (n + 1) hn now false b (.inr ⟨rfl, .inr ⟨n, hn, rfl, h1⟩, Nat.succ_ne_zero n⟩)
/-- where a text comes to -/
theorem goes_rel {m : MS} {R : List Row} {d : DM} (hm : MOkP m) (hi : MkI m (firstT m.empty 0) (d.S.length + 1) R d) (tags : List Int) (s : List UInt8) (hs : s ≠ []) : RelQ d.S (go (aut R tags) 0 s) (runP m s) := by
  cases s with
  | nil => exact absurd rfl hs
  | cons b s =>
    rw [runP_cons]
    exact go_rel hm hi tags s _ _ (step_rel hm hi tags 0 (Nat.zero_le _) [] true b (.inl ⟨rfl, rfl, rfl⟩))
/-! ### tags -/
theorem tag_law {p : PS} {n : Nat} (hr : ∀ r ∈ p.rules, 0 ≤ r ∧ r < n) (hl : p.rules.length = p.classes.length) (s : C4) : ∀ k, k ≤ p.classes.length → (tagTo p s k = -1 ∧ ∀ i, i < k → s.mem i = true → p.last.getD i false = true → False) ∨ (∃ i, i < k ∧ s.mem i = true ∧ p.last.getD i false = true ∧ tagTo p s k = p.rules.getD i 0 ∧ 0 ≤ tagTo p s k ∧ tagTo p s k < n ∧ ∀ i, i < k → s.mem i = true → p.last.getD i false = true → tagTo p s k ≤ p.rules.getD i 0)
  | 0, _ => .inl ⟨rfl, fun i hi => absurd hi (Nat.not_lt_zero i)⟩
  | k + 1, hk => by
    have hrk : 0 ≤ p.rules.getD k 0 ∧ p.rules.getD k 0 < n := by
      rw [List.getD_eq_getElem?_getD, List.getElem?_eq_getElem (by omega), Option.getD_some]
      exact hr _ (List.getElem_mem _)
    have e : tagTo p s (k + 1) = if s.mem k = true ∧ p.last.getD k false = true ∧ (tagTo p s k < 0 ∨ p.rules.getD k 0 < tagTo p s k) then p.rules.getD k 0 else tagTo p s k := rfl
    rw [e]
    have ih := tag_law hr hl s k (by omega)
    by_cases c : s.mem k = true ∧ p.last.getD k false = true ∧ (tagTo p s k < 0 ∨ p.rules.getD k 0 < tagTo p s k)
    · rw [if_pos c]
      refine .inr ⟨k, Nat.lt_succ_self k, c.1, c.2.1, rfl, hrk.1, hrk.2, fun i hi h1 h2 => ?_⟩
      by_cases ei : i = k
      · subst ei; exact Int.le_refl _
      · rcases ih with ⟨_, h⟩ | ⟨_, _, _, _, _, h0, _, h⟩
        · exact (h i (by omega) h1 h2).elim
        · have h7 := h i (by omega) h1 h2
          have h8 := c.2.2
          omega
    · rw [if_neg c]
      rcases ih with ⟨h0, h⟩ | ⟨i, hi, h1, h2, h3, h4, h5, h6⟩
      · refine .inl ⟨h0, fun i hi h1 h2 => ?_⟩
        by_cases ei : i = k
        · subst ei; exact c ⟨h1, h2, .inl (by rw [h0]; decide)⟩
        · exact h i (by omega) h1 h2
      · refine .inr ⟨i, by omega, h1, h2, h3, h4, h5, fun j hj g1 g2 => ?_⟩
        by_cases ej : j = k
        · subst ej
          have h9 : ¬ (tagTo p s j < 0 ∨ p.rules.getD j 0 < tagTo p s j) := fun h => c ⟨g1, g2, h⟩
          omega
        · exact h6 j (by omega) g1 g2
/-! ### the least rule -/
theorem firstT_law : ∀ (l : List Bool) (k : Nat), (firstT l k = -1 ∧ ∀ i, i < l.length → l.getD i false = false) ∨ (∃ i, i < l.length ∧ firstT l k = ((k + i : Nat) : Int) ∧ l.getD i false = true ∧ ∀ j, j < i → l.getD j false = false)
  | [], _ => .inl ⟨rfl, fun _ _ => rfl⟩
  | true :: l, k => .inr ⟨0, Nat.zero_lt_succ _, rfl, rfl, fun j hj => absurd hj (Nat.not_lt_zero j)⟩
  | false :: l, k => by
    have e : firstT (false :: l) (k : Int) = firstT l ((k + 1 : Nat) : Int) := rfl
    rw [e]
    rcases firstT_law l (k + 1) with ⟨h1, h2⟩ | ⟨i, h1, h2, h3, h4⟩
    · refine .inl ⟨h1, fun i hi => ?_⟩
      cases i with
      | zero => rfl
      | succ i => exact h2 i (by simpa using hi)
    · refine .inr ⟨i + 1, by simpa using h1, by rw [h2]; congr 1; omega, h3, fun j hj => ?_⟩
      cases j with
      | zero => rfl
      | succ j => exact h4 j (by omega)
theorem firstT_no {l : List Bool} (h : ∀ i, i < l.length → l.getD i false = false) : firstT l 0 = -1 := by
  rcases firstT_law l 0 with ⟨h1, _⟩ | ⟨i, h1, _, h3, _⟩
  · exact h1
  · rw [h i h1] at h3; cases h3
theorem firstT_eq {l : List Bool} {i : Nat} (hi : i < l.length) (h : l.getD i false = true) (hj : ∀ j, j < i → l.getD j false = false) : firstT l 0 = (i : Int) := by
  rcases firstT_law l 0 with ⟨_, h2⟩ | ⟨k, h1, h2, h3, h4⟩
  · rw [h2 i hi] at h; cases h
  · have h2 : firstT l 0 = ((0 + k : Nat) : Int) := h2
    have : k = i := by
      rcases Nat.lt_trichotomy k i with c | c | c
      · rw [hj k c] at h3; cases h3
      · exact c
      · rw [h4 i c] at h; cases h
    rw [h2]; omega
open Classical in
/-- the least rule whose expression means the text; -1: none does -/
noncomputable def leastL (es : List Re) (s : List UInt8) : Int := firstT (es.map fun e => decide (Lang e s)) 0
open Classical in
theorem lb_get (es : List Re) (s : List UInt8) {k : Nat} (hk : k < es.length) : (es.map fun e => decide (Lang e s)).getD k false = decide (Lang es[k] s) := by
  rw [List.getD_eq_getElem?_getD, List.getElem?_map, List.getElem?_eq_getElem hk]; rfl
open Classical in
theorem least_no {es : List Re} {s : List UInt8} (h : ∀ i (h : i < es.length), ¬ Lang es[i] s) : leastL es s = -1 := by
  unfold leastL
  refine firstT_no fun i hi => ?_
  rw [List.length_map] at hi
  rw [lb_get es s hi]; exact decide_eq_false (h i hi)
open Classical in
theorem least_eq {es : List Re} {s : List UInt8} {i : Nat} (hi : i < es.length) (h : Lang es[i] s) (hj : ∀ j (h : j < i), ¬ Lang (es[j]'(by omega)) s) : leastL es s = (i : Int) := by
  unfold leastL
  refine firstT_eq (by rw [List.length_map]; exact hi) (by rw [lb_get es s hi]; exact decide_eq_true h) fun j hji => ?_
  rw [lb_get es s (by omega)]; exact decide_eq_false (hj j hji)
open Classical in
theorem least_law (es : List Re) (s : List UInt8) : (leastL es s = -1 ∧ ∀ i (h : i < es.length), ¬ Lang es[i] s) ∨ ∃ i, ∃ h : i < es.length, leastL es s = (i : Int) ∧ Lang es[i] s ∧ ∀ j (h : j < i), ¬ Lang (es[j]'(by omega)) s := by
  unfold leastL
  rcases firstT_law (es.map fun e => decide (Lang e s)) 0 with ⟨h1, h2⟩ | ⟨i, h1, h2, h3, h4⟩
  · refine .inl ⟨h1, fun i hi => ?_⟩
    have := h2 i (by rw [List.length_map]; exact hi)
    rw [lb_get es s hi] at this
    exact of_decide_eq_false this
  · rw [List.length_map] at h1
    rw [lb_get es s h1] at h3
    refine .inr ⟨i, h1, by rw [Nat.zero_add] at h2; exact h2, of_decide_eq_true h3, fun j hj => ?_⟩
    have := h4 j hj
    rw [lb_get es s (by omega)] at this
    exact of_decide_eq_false this
theorem firstT_lt {l : List Bool} : -1 ≤ firstT l 0 ∧ firstT l 0 < (l.length : Int) := by
  rcases firstT_law l 0 with ⟨h1, _⟩ | ⟨i, h1, h2, _⟩
  · have h1 : firstT l 0 = -1 := h1
    rw [h1]; omega
  · have h2 : firstT l 0 = ((0 + i : Nat) : Int) := h2
    rw [h2]; omega
section
variable {es : List Re} {m : MS} {R : List Row} {d : DM}
theorem mk_tags (hm : MOkP m) (hi : MkI m (firstT m.empty 0) (d.S.length + 1) R d) {k : Nat} (hk : k < d.S.length + 1) : d.tags.getD k 0 = (if h : k = 0 then firstT m.empty 0 else dfaP.tagF m.ps (d.S[k - 1]'(by omega))) ∧ -1 ≤ d.tags.getD k 0 ∧ d.tags.getD k 0 < 20 := by
  have h := hi.tags
  unfold TagsOk at h
  rw [h]
  have h20 := hm.most
  cases k with
  | zero =>
    have := firstT_lt (l := m.empty)
    refine ⟨rfl, this.1, ?_⟩
    have e : (firstT m.empty 0 :: d.S.map (dfaP.tagF m.ps)).getD 0 0 = firstT m.empty 0 := rfl
    rw [e]; omega
  | succ k =>
    have hk : k < d.S.length := by omega
    have e : (firstT m.empty 0 :: d.S.map (dfaP.tagF m.ps)).getD (k + 1) 0 = dfaP.tagF m.ps d.S[k] := by
      rw [List.getD_cons_succ, List.getD_eq_getElem?_getD, List.getElem?_map, List.getElem?_eq_getElem hk]; rfl
    rw [e]
    refine ⟨rfl, ?_⟩
    unfold dfaP.tagF
    rcases tag_law hm.rules hm.ok.ps.rules d.S[k] m.ps.classes.length (Nat.le_refl _) with ⟨h1, _⟩ | ⟨_, _, _, _, _, h1, h2, _⟩
    · rw [h1]; omega
    · omega
theorem mk_chk (hm : MOkP m) (hi : MkI m (firstT m.empty 0) (d.S.length + 1) R d) : chk R d.tags = 0 := by
  have hl := hi.len
  have hf := hi.few
  refine ok_chk ⟨?_, ?_, fun q hq b hb => ?_, fun q hq => ?_⟩ ?_
  · show 0 < R.length; omega
  · show R.length ≤ 200; omega
  · have hq : q < R.length := hq
    show -1 ≤ (R.getD q row0).toList.getD b 0 ∧ (R.getD q row0).toList.getD b 0 < (R.length : Int)
    rw [row_getD R q b hb, (hi.cell q (by omega) b hb).1]
    unfold cellT
    by_cases c : toF m.ps (nextF m d.S q) b = C4.zero
    · rw [if_pos c]; omega
    · rw [if_neg c]
      have := idx_lt ((hi.cell q (by omega) b hb).2.resolve_left c)
      omega
  · have hq : q < R.length := hq
    exact (mk_tags hm hi (by omega)).2
  · have h := hi.tags
    unfold TagsOk at h
    rw [h, hl, List.length_cons, List.length_map]
open Classical in
/-- RABIN, SCOTT: a text's tag is the least rule whose expression means it -/
theorem made_tag (h0 : 0 < es.length) (h20 : es.length ≤ 20) (hl : loopM 0 .zero es = (0, m)) (hd : makeD m = some (R, d)) : chk R d.tags = 0 ∧ ∀ s, eng.tagF R d.tags s = (leastL es s, 0) := by
  have hm := make_ok h0 h20 hl
  have hv := make_inv hl
  have hi := makeD_law hd
  have hc := mk_chk hm hi
  refine ⟨hc, fun s => ?_⟩
  show (if chk R d.tags = 0 then (tg (aut R d.tags) (go (aut R d.tags) 0 s), (0 : Int)) else (0, chk R d.tags)) = _
  rw [if_pos hc]
  congr 1
  by_cases hs : s = []
  · subst hs
    show tg (aut R d.tags) 0 = _
    unfold tg
    rw [if_neg (by decide)]
    show d.tags.getD 0 0 = _
    rw [(mk_tags hm hi (Nat.zero_lt_succ _)).1, dif_pos rfl, hv.empty]
    unfold leastL
    congr 1
    refine List.map_congr_left fun e _ => ?_
    cases c : empL e with
    | true => exact (decide_eq_true ((lang_nil e).2 c)).symm
    | false => exact (decide_eq_false (fun h => by rw [(lang_nil e).1 h] at c; cases c)).symm
  · rcases goes_rel hm hi d.tags s hs with ⟨e, hnow⟩ | ⟨n, hn, e, h1, h2⟩
    · rw [e]
      unfold tg
      rw [if_pos (by decide)]
      refine (least_no fun i hi' h => ?_).symm
      obtain ⟨x, hx, _⟩ := (tells_lang hm hv hs (List.getElem?_eq_getElem hi')).2 h
      rw [hnow] at hx; cases hx
    · rw [e]
      unfold tg
      rw [if_neg (by omega), Int.toNat_natCast]
      show d.tags.getD (n + 1) 0 = _
      rw [(mk_tags hm hi (by omega)).1, dif_neg (Nat.succ_ne_zero n)]
      show dfaP.tagF m.ps d.S[n] = _
      unfold dfaP.tagF
      have he : m.empty.length = es.length := by rw [hv.empty, List.length_map]
      have hlow : ∀ i (hi' : i < es.length), Lang es[i] s → ∃ j, j < m.ps.classes.length ∧ d.S[n].mem j = true ∧ m.ps.last.getD j false = true ∧ m.ps.rules.getD j 0 = (i : Int) := fun i hi' h => by
        obtain ⟨x, hx, g1, g2⟩ := (tells_lang hm hv hs (List.getElem?_eq_getElem hi')).2 h
        have hx2 := (runPin hm s).2 x hx
        obtain ⟨j, rfl⟩ := Int.eq_ofNat_of_zero_le hx2.1
        rw [Int.toNat_natCast] at g1 g2
        have := hm.few
        exact ⟨j, by omega, (h1 j (by omega)).2 hx, g2, g1⟩
      rcases tag_law hm.rules hm.ok.ps.rules d.S[n] m.ps.classes.length (Nat.le_refl _) with ⟨g1, g2⟩ | ⟨i, g1, g2, g3, g4, g5, g6, g7⟩
      · rw [g1]
        refine (least_no fun i hi' h => ?_).symm
        obtain ⟨j, q1, q2, q3, _⟩ := hlow i hi' h
        exact g2 j q1 q2 q3
      · obtain ⟨r, hr⟩ := Int.eq_ofNat_of_zero_le g5
        rw [hr] at g4 g6 g7 ⊢
        have hre : r < es.length := by omega
        have := hm.few
        refine (least_eq hre ((tells_lang hm hv hs (List.getElem?_eq_getElem hre)).1 ⟨(i : Int), (h1 i (by omega)).1 g2, by rw [Int.toNat_natCast]; exact g4.symm, by rw [Int.toNat_natCast]; exact g3⟩) fun j hj h => ?_).symm
        obtain ⟨k, q1, q2, q3, q4⟩ := hlow j (by omega) h
        have := g7 k q1 q2 q3
        rw [q4] at this
        omega
end
end Go.Proofs.YtkcnoompimohnaaDoor.dfaP

/- MadeL -/
namespace Go.Proofs.YtkcnoompimohnaaDoor.rexL
open classL
end Go.Proofs.YtkcnoompimohnaaDoor.rexL
namespace Go.Proofs.YtkcnoompimohnaaDoor.dfaP
open classL rexL placesL smallL
end Go.Proofs.YtkcnoompimohnaaDoor.dfaP
namespace Go.Proofs.YtkcnoompimohnaaDoor.eng
open Go.RowKit kit mix classL rexL placesL dfaP smallL
/-- RABIN, SCOTT -/
theorem madeR_law {rs : List Rx} {x : List Row × List Int × Bool} (h : MadeR rs x) : x.2.2 = false ∨ ∃ es : List Re, rs = es.map emb ∧ (∀ e ∈ es, Fit e 1 0) ∧ 0 < es.length ∧ es.length ≤ 20 ∧ x.2.2 = true ∧ chk x.1 x.2.1 = 0 ∧ ∀ s, tagF x.1 x.2.1 s = (leastL es s, 0) := by
  rcases h with ⟨k, _, _, rfl⟩ | ⟨es, m, rfl, hfit, h0, h20, hl, _, rfl⟩
  · exact .inl rfl
  · cases hd : makeD m with
    | none => rw [outD_8 hd]; exact .inl rfl
    | some y =>
      obtain ⟨R, d⟩ := y
      rw [outD_0 hd]
      obtain ⟨h1, h2⟩ := made_tag h0 h20 hl hd
      exact .inr ⟨es, rfl, hfit, h0, h20, rfl, h1, h2⟩
end Go.Proofs.YtkcnoompimohnaaDoor.eng

/- RexW -/
namespace Go.Proofs.YtkcnoompimohnaaDoor.eng
open Go.RowKit kit mix classL rexL classSets
theorem is_fit {e : Re} {s : List UInt8} (h : Fit e 1 0) (hs : s.length ≤ 200) {b : Bool} (hb : b = true ↔ Lang e s) : isF (emb e) s = (b, false) := by
  obtain ⟨h1, h2⟩ := mat_fit h hs
  unfold isF
  rw [h1]
  refine Prod.ext (Bool.eq_iff_iff.2 ?_) rfl
  show (matF (emb e) s).1 = true ↔ _
  rw [h2, hb]
end Go.Proofs.YtkcnoompimohnaaDoor.eng

/- PmM -/
namespace Go.Proofs.YtkcnoompimohnaaDoor.eng
open Go.RowKit kit mix classL rexL placesL
open Classical in
/-- does each match? -/
noncomputable def mchB (es : List Re) (s : List UInt8) : List Bool := es.map fun e => decide (Lang e s)
noncomputable def mchL (es : List Re) (s : List UInt8) : List Int := truesTo (mchB es s) es.length
open Classical in
theorem mchB_get (es : List Re) (s : List UInt8) {k : Nat} (hk : k < es.length) : (mchB es s).getD k false = decide (Lang es[k] s) := by
  unfold mchB
  rw [List.getD_eq_getElem?_getD, List.getElem?_map, List.getElem?_eq_getElem hk]; rfl
theorem isF_lang {e : Re} {s : List UInt8} (h : Fit e 1 0) (hs : s.length ≤ 200) {b : Bool} (hb : b = true ↔ Lang e s) : isF (emb e) s = (b, false) := is_fit h hs hb
open Classical in
set_option maxHeartbeats 4000000 in
theorem matched_calls (v : Value) (es : List Re) (s : List UInt8) (w : World) (hT : TabW w) (hv : SlF rexS (Low w) w v (es.map emb)) (hfit : ∀ e ∈ es, Fit e 1 0) (hs : s.length ≤ 200) (hl : es.length ≤ 20) :
    Calls Tryd.prog 8 #[v, str s] w (Meets (intRS (mchL es s)) w) := by
  obtain ⟨bk, ck, rfl, _, hmx, hrd⟩ := hv
  have hlen : (es.map emb).length = es.length := List.length_map ..
  refine enter (args := [.slice bk (es.map emb).length ck, str s]) (n := 30) Tryd.func8 rfl rfl rfl ?_
  repeat (first
    | refine QV QP ?_ | refine QZ ?_ | refine qcT rfl ?_ | refine qcF rfl ?_ | refine E_blockX ?_ | refine E_blockO rfl ?_ | refine QV QL ?_
    | refine QV QlT ?_ | refine QV QlF ?_ | refine QV QaA ?_)
  refine T_nil 3 1 ?_
  unfold mchL
  refine T_loop (ι := Nat × Value) (fun (k, _) => k ≤ es.length) (fun (k, u) => [(1, str s), (5, u), (10, .slice bk (es.map emb).length ck), (11, .int .i64 (es.map emb).length), (12, .int .i64 (k : Int))]) (fun (k, u) => [intR u (truesTo (mchB es s) k)]) (fun (k, _) => es.length - k) (0, .slice none 0 0) (Nat.zero_le _) (by repeat' (first | exact True.intro | refine And.intro rfl ?_)) rfl ?_
  rintro ⟨k, u⟩ hk
  dsimp only at hk ⊢
  by_cases c6 : k < es.length
  · obtain ⟨b, off, rfl, hF, hrd2⟩ := hrd (by omega)
    obtain ⟨kb, kc, hr, hkid⟩ := rkid_at (k := k) hrd2 (by omega)
    have hat := fun (L : List Own) (j : Nat) (v : Value) (hj : (rexC (es.map emb)[k].kind (es.map emb)[k].cls (.slice kb (es.map emb)[k].kids.length kc))[j]? = some v) => at_rd (L := L) hr hj
    have hke : (es.map emb)[k]'(by omega) = emb es[k] := List.getElem_map ..
    have hfe := hfit es[k] (List.getElem_mem c6)
    have hb := mchB_get es s c6
    have his := isF_lang hfe hs (b := (mchB es s).getD k false) (by rw [hb]; simp)
    rw [hke] at hat hkid
    have hic := fun w' (hg : Gr w w') hT' => is_calls _ _ s w' hT' (hkid.gr hg) (by omega)
    rw [his] at hic
    have hp := trues_push (mchB es s) k
    have hpl := trues_push_len (mchB es s) k
    have hsk := trues_skip (mchB es s) k
    have htl := trues_len (mchB es s) k
    clear hrd hrd2 hr hke hb his hfe hkid
    generalize (mchB es s).getD k false = bb at *
    generalize emb es[k] = r at *
    obtain ⟨kd, c, kids⟩ := r
    dsimp only [Rx.kind, Rx.cls, Rx.kids] at hat hic
    repeat (first
      | refine QV QP ?_ | refine QZ ?_ | refine qcT rfl ?_ | refine qcF rfl ?_ | refine E_blockX ?_ | refine E_blockO rfl ?_
      | refine QV (rr_idxc Und.eq TyC.ty rfl rfl (by omega)) ?_ | refine QV (rr_loadN TyC.ty rfl rfl (hat _)) ?_ | refine QV QL ?_ | refine QV QlT ?_
      | refine QV QlF ?_ | refine QV QaA ?_)
    refine TL_new rfl fun g7 => ?_
    conv => arg 8; simp only [zA, zB, zC, zD, zE, zF, zG, zH, zI, rowS, ret, id_eq]
    repeat (first
      | refine QV QP ?_ | refine QZ ?_ | refine qcT rfl ?_ | refine qcF rfl ?_ | refine E_blockX ?_ | refine E_blockO rfl ?_ | refine QV QL ?_
      | refine QV QlT ?_ | refine QV QlF ?_ | refine QV QaA ?_)
    refine TL_storeB (i := 1) (cs' := (rexC kd c (.slice kb kids.length kc)).toArray) rfl rfl rfl rfl rfl rfl ?_
    conv => arg 8; simp only [zA, zB, zC, zD, zE, zF, zG, zH, zI, rowS, ret, id_eq]
    repeat (first
      | refine QV QP ?_ | refine QZ ?_ | refine qcT rfl ?_ | refine qcF rfl ?_ | refine E_blockX ?_ | refine E_blockO rfl ?_
      | refine QV (rr_loadB (i := 1) TyC.ty rfl rfl rfl) ?_ | refine QV QL ?_ | refine QV QlT ?_ | refine QV QlF ?_ | refine QV QaA ?_)
    refine TL_call (he2 EntersC.en rfl rfl rfl) (fun w hm => hic w hm.below (hT.up hm)) rfl rfl rfl ?_
    intro _ _
    conv => arg 8; simp only [zA, zB, zC, zD, zE, zF, zG, zH, zI, rowS, ret, id_eq]
    by_cases c2 : bb = true
    · subst c2
      repeat (first
        | refine QV QP ?_ | refine QZ ?_ | refine qcT rfl ?_ | refine qcF rfl ?_ | refine E_blockX ?_ | refine E_blockO rfl ?_ | refine QV QL ?_
        | refine QV QlT ?_ | refine QV QlF ?_ | refine QV QaA ?_)
      refine TL_push1 (i := 0) rfl rfl rfl rfl rfl rfl (fun z h => by cases h; rfl) (by omega) (by omega) rfl fun z' v' => ?_
      repeat (first
        | refine QV QP ?_ | refine QZ ?_ | refine qcT rfl ?_ | refine qcF rfl ?_ | refine E_blockX ?_ | refine E_blockO rfl ?_ | refine QV QL ?_
        | refine QV QlT ?_ | refine QV QlF ?_ | refine QV QaA ?_)
      refine E_pick [0] (by decide) rfl ?_
      exact E_round (k + 1, v') (by show k + 1 ≤ es.length; omega) (by show es.length - (k + 1) < es.length - k; omega) (by repeat' (first | exact True.intro | refine And.intro rfl ?_)) (by dsimp only [intR]; rw [hp rfl, hpl rfl]; rfl)
    · obtain rfl := Bool.eq_false_iff.2 c2
      repeat (first
        | refine QV QP ?_ | refine QZ ?_ | refine qcT rfl ?_ | refine qcF rfl ?_ | refine E_blockX ?_ | refine E_blockO rfl ?_ | refine QV QL ?_
        | refine QV QlT ?_ | refine QV QlF ?_ | refine QV QaA ?_)
      refine E_pick [0] (by decide) rfl ?_
      exact E_round (k + 1, u) (by show k + 1 ≤ es.length; omega) (by show es.length - (k + 1) < es.length - k; omega) (by repeat' (first | exact True.intro | refine And.intro rfl ?_)) (by dsimp only; rw [hsk (by decide)]; rfl)
  · obtain rfl : k = es.length := by omega
    repeat (first
      | refine QV QP ?_ | refine QZ ?_ | refine qcT rfl ?_ | refine qcF rfl ?_ | refine E_blockX ?_ | refine E_blockO rfl ?_ | refine QV QL ?_
      | refine QV QlT ?_ | refine QV QlF ?_ | refine QV QaA ?_)
    exact E_ret1 rfl rfl fun w hm => hm.meets (S := intRS (truesTo (mchB es s) es.length)) u trivial [0] (by decide) rfl
end Go.Proofs.YtkcnoompimohnaaDoor.eng

/- MchL -/
namespace Go.Proofs.YtkcnoompimohnaaDoor.eng
open Go.RowKit kit mix classL rexL placesL dfaP smallL
open Classical in
theorem mch_mem {es : List Re} {s : List UInt8} {x : Int} : x ∈ mchL es s ↔ ∃ i : Nat, x = i ∧ ∃ h : i < es.length, Lang es[i] s := by
  unfold mchL
  rw [trues_mem]
  constructor
  · rintro ⟨i, rfl, hi, h⟩
    rw [mchB_get es s hi] at h
    exact ⟨i, rfl, hi, of_decide_eq_true h⟩
  · rintro ⟨i, rfl, hi, h⟩
    exact ⟨i, rfl, hi, by rw [mchB_get es s hi]; exact decide_eq_true h⟩
theorem mch_least (es : List Re) (s : List UInt8) : (leastL es s = -1 ∧ mchL es s = []) ∨ (∃ i : Nat, i < es.length ∧ leastL es s = (i : Int) ∧ ∃ r, mchL es s = (i : Int) :: r) := by
  rcases least_law es s with ⟨h1, h2⟩ | ⟨i, hi, h1, h2, h3⟩
  · refine .inl ⟨h1, ?_⟩
    cases e : mchL es s with
    | nil => rfl
    | cons x r =>
      obtain ⟨i, _, hi, h⟩ := mch_mem.1 (show x ∈ mchL es s by rw [e]; exact List.mem_cons_self ..)
      exact absurd h (h2 i hi)
  · refine .inr ⟨i, hi, h1, ?_⟩
    have hm : (i : Int) ∈ mchL es s := mch_mem.2 ⟨i, rfl, hi, h2⟩
    cases e : mchL es s with
    | nil => rw [e] at hm; cases hm
    | cons x r =>
      obtain ⟨j, rfl, hj, h⟩ := mch_mem.1 (show x ∈ mchL es s by rw [e]; exact List.mem_cons_self ..)
      have hr : (mchL es s).Pairwise (· < ·) := trues_rising _ _
      rw [e] at hr hm
      have hij : (i : Int) ≤ j := by
        rcases Nat.lt_or_ge j i with c | c
        · exact absurd h (h3 j c)
        · omega
      rcases List.mem_cons.1 hm with h4 | h4
      · exact ⟨r, by rw [h4]⟩
      · have := (List.pairwise_cons.1 hr).1 _ h4
        omega
end Go.Proofs.YtkcnoompimohnaaDoor.eng

/- SmK -/
namespace Go.Proofs.YtkcnoompimohnaaDoor.eng
open Go.RowKit kit mix smallL
/-! ### kinds -/
def kindC (k : Kind) : List Value := .int .i64 k.1 :: rowC k.2
def kindV (k : Kind) : Value := .agg (kindC k).toArray
theorem kindC_len (k : Kind) : (kindC k).length = 257 := by simp [kindC, rowC_len]
def rowOk (r : Row) : Prop := ∀ (b : Nat) (h : b < 256), (-32768 : Int) ≤ r[b] ∧ r[b] ≤ 32767
theorem rowC_inj {r r' : Row} (h : rowC r = rowC r') : r = r' := by
  refine Vector.ext fun b hb => ?_
  have h1 := rowC_get r hb
  rw [h, rowC_get r' hb] at h1
  simp at h1; exact h1.symm
theorem kl_row {r : Row} (h : rowOk r) (d : Nat) : KL Tryd.prog (d + 2) 73 (rowC r) := by
  have e2 : Tryd.prog.cellsOf 73 = 256 := by kernel_rfl
  have e3 : Tryd.prog.cellsOf 71 = 1 := by kernel_rfl
  refine kl_arr (d := d + 1) Tryd.underlying73 (by rw [rowC_len, e2]) fun i hi => ?_
  have hc : ((rowC r).drop (i * Tryd.prog.cellsOf 71)).take (Tryd.prog.cellsOf 71) = [.int .i16 r[i]] := by
    rw [e3, Nat.mul_one]
    have hl : i < (rowC r).length := by rw [rowC_len]; exact hi
    rw [List.drop_eq_getElem_cons hl]
    have := rowC_get r hi
    rw [List.getElem?_eq_getElem hl] at this
    rw [Option.some.inj this]; rfl
  rw [hc]
  exact kl_int Tryd.underlying71 (h i hi).1 (h i hi).2
set_option maxRecDepth 100000 in
theorem kind_key (k : Kind) (h : kit.okI64 k.1 ∧ rowOk k.2) : ∃ l, keyOf Tryd.prog 100 (kindV k) = some l := by
  have e1 : Tryd.prog.cellsOf 100 = 257 := by kernel_rfl
  have e2 : Tryd.prog.cellsOf 73 = 256 := by kernel_rfl
  have e3 : Tryd.prog.cellsOf 3 = 1 := by kernel_rfl
  refine key_ex (m := 3) (by kernel_rfl) (by kernel_rfl) (by rw [kindC_len, e1]) (trySize 3 (by kernel_rfl)) fun d => ?_
  refine kl_struct (d := d + 2) Tryd.underlying100 (by rw [kindC_len, e1]) (by kernel_rfl) fun f hf => ?_
  simp only [List.mem_cons, List.not_mem_nil, or_false] at hf
  rcases hf with rfl | rfl
  · rw [e3]
    exact kl_int (d := d + 1) Tryd.underlying3 h.1.1 h.1.2
  · show KL Tryd.prog (d + 2) 73 (((kindC k).drop 1).take (Tryd.prog.cellsOf 73))
    rw [e2]
    have : ((kindC k).drop 1).take 256 = rowC k.2 := by
      show (rowC k.2).take 256 = _
      rw [List.take_of_length_le (by rw [rowC_len]; omega)]
    rw [this]
    exact kl_row h.2 d
theorem kindRow : (100 : TypeId) < Tryd.prog.types.size := of_decide_eq_true (by kernel_rfl)
set_option maxRecDepth 100000 in
def kindK : KeyT Tryd.prog 100 Kind where
  kv := kindV
  ok k := kit.okI64 k.1 ∧ rowOk k.2
  law := deep_law_laid tryLaid (m := 3) (by omega) kindRow (by kernel_rfl) (by kernel_rfl)
  key x h := kind_key x h
  inj x y h := by
    simp only [kindV, Value.agg.injEq, Array.mk.injEq, kindC, List.cons.injEq, Value.int.injEq, true_and] at h
    exact Prod.ext h.1 (rowC_inj h.2)
/-! ### columns -/
abbrev Col := Vector Int 200
def colC (c : Col) : List Value := c.toList.map (.int .i16)
def colV (c : Col) : Value := .agg (colC c).toArray
theorem colC_len (c : Col) : (colC c).length = 200 := by simp [colC]
theorem colC_get (c : Col) {b : Nat} (hb : b < 200) : (colC c)[b]? = some (.int .i16 c[b]) := by
  unfold colC
  rw [List.getElem?_map, List.getElem?_eq_getElem (by simpa using hb), Vector.getElem_toList]; rfl
def colOk (c : Col) : Prop := ∀ (b : Nat) (h : b < 200), (-32768 : Int) ≤ c[b] ∧ c[b] ≤ 32767
set_option maxRecDepth 100000 in
theorem col_key (c : Col) (h : colOk c) : ∃ l, keyOf Tryd.prog 77 (colV c) = some l := by
  have e2 : Tryd.prog.cellsOf 77 = 200 := by kernel_rfl
  have e3 : Tryd.prog.cellsOf 71 = 1 := by kernel_rfl
  refine key_ex (m := 2) (by kernel_rfl) (by kernel_rfl) (by rw [colC_len, e2]) (trySize 2 (by kernel_rfl)) fun d => ?_
  refine kl_arr (d := d + 1) Tryd.underlying77 (by rw [colC_len, e2]) fun i hi => ?_
  have hc : ((colC c).drop (i * Tryd.prog.cellsOf 71)).take (Tryd.prog.cellsOf 71) = [.int .i16 c[i]] := by
    rw [e3, Nat.mul_one]
    have hl : i < (colC c).length := by rw [colC_len]; exact hi
    rw [List.drop_eq_getElem_cons hl]
    have := colC_get c hi
    rw [List.getElem?_eq_getElem hl] at this
    rw [Option.some.inj this]; rfl
  rw [hc]
  exact kl_int Tryd.underlying71 (h i hi).1 (h i hi).2
theorem colRow : (77 : TypeId) < Tryd.prog.types.size := of_decide_eq_true (by kernel_rfl)
set_option maxRecDepth 100000 in
def colK : KeyT Tryd.prog 77 Col where
  kv := colV
  ok := colOk
  law := deep_law_laid tryLaid (m := 2) (by omega) colRow (by kernel_rfl) (by kernel_rfl)
  key x h := col_key x h
  inj x y h := by
    simp only [colV, Value.agg.injEq, Array.mk.injEq] at h
    refine Vector.ext fun b hb => ?_
    have h1 := colC_get x hb
    rw [h, colC_get y hb] at h1
    simp at h1; exact h1.symm
theorem zeroI (w : World) : (zeroValue 3).run Tryd.prog w = .ok (.int .i64 0) w := by kernel_rfl
end Go.Proofs.YtkcnoompimohnaaDoor.eng

/- Fam -/
namespace Go.Proofs.YtkcnoompimohnaaDoor.eng
open Go.RowKit kit mix
def famP (D : Nat → Prop) (f : Nat → Own) : Own where
  blk := none
  more := fun k => ∃ i, D i ∧ (f i).foot k
  holds := fun w => (∀ i, D i → (f i).holds w) ∧ ∀ i j, D i → D j → i ≠ j → ∀ k, (f i).foot k → ¬ (f j).foot k
  lt := fun w h k hk => by
    rcases hk with hk | ⟨i, hi, hk⟩
    · cases hk
    · exact (f i).lt w (h.1 i hi) k hk
  stay := fun w w' h hs hb => ⟨fun i hi => (f i).stay w w' (h.1 i hi) hs fun k hk => hb k (.inr ⟨i, hi, hk⟩), h.2⟩
theorem fam_congr {D D' : Nat → Prop} {f f' : Nat → Own} (h1 : ∀ k, D' k → D k) (h2 : ∀ k, D' k → f' k = f k) (w : World) (h : (famP D f).holds w) : (famP D' f').holds w :=
  ⟨fun i hi => by rw [h2 i hi]; exact h.1 i (h1 i hi), fun i j hi hj hij => by rw [h2 i hi, h2 j hj]; exact h.2 i j (h1 i hi) (h1 j hj) hij⟩
theorem fam_foot {D D' : Nat → Prop} {f f' : Nat → Own} (h1 : ∀ k, D' k → D k) (h2 : ∀ k, D' k → f' k = f k) (k : Nat) (h : (famP D' f').foot k) : (famP D f).foot k := by
  rcases h with h | ⟨i, hi, hk⟩
  · cases h
  · exact .inr ⟨i, h1 i hi, by rw [← h2 i hi]; exact hk⟩
/-- one more -/
def upd (f : Nat → Own) (i : Nat) (o : Own) : Nat → Own := fun k => if k = i then o else f k
theorem upd_ne {f : Nat → Own} {i j : Nat} {o : Own} (h : j ≠ i) : upd f i o j = f j := by unfold upd; rw [if_neg h]
theorem upd_eq {f : Nat → Own} {i : Nat} {o : Own} : upd f i o i = o := by unfold upd; rw [if_pos rfl]
theorem fam_put {D : Nat → Prop} {f : Nat → Own} {i : Nat} {o : Own} {w : World} (hi : ¬ D i) (h : (famP D f).holds w) (ho : o.holds w) (ha : ∀ k, (famP D f).foot k → ¬ o.foot k) : (famP (fun k => D k ∨ k = i) (upd f i o)).holds w := by
  have hf : ∀ j, D j → upd f i o j = f j := fun j hj => upd_ne fun e => hi (by subst e; exact hj)
  have hg : upd f i o i = o := upd_eq
  refine ⟨fun j hj => ?_, fun j k hj hk hjk q hq hq' => ?_⟩
  · rcases hj with hj | rfl
    · rw [hf j hj]; exact h.1 j hj
    · rw [hg]; exact ho
  · rcases hj with hj | rfl <;> rcases hk with hk | rfl
    · rw [hf j hj] at hq; rw [hf k hk] at hq'; exact h.2 j k hj hk hjk q hq hq'
    · rw [hf j hj] at hq; rw [hg] at hq'; exact ha q (.inr ⟨j, hj, hq⟩) hq'
    · rw [hg] at hq; rw [hf k hk] at hq'; exact ha q (.inr ⟨k, hk, hq'⟩) hq
    · exact hjk rfl
theorem fam_putF {D : Nat → Prop} {f : Nat → Own} {i : Nat} {o : Own} (hi : ¬ D i) (k : Nat) (h : (famP (fun k => D k ∨ k = i) (upd f i o)).foot k) : (famP D f).foot k ∨ o.foot k := by
  rcases h with h | ⟨j, hj, hk⟩
  · cases h
  · rcases hj with hj | rfl
    · exact .inl (.inr ⟨j, hj, by rw [upd_ne fun e => hi (by subst e; exact hj)] at hk; exact hk⟩)
    · exact .inr (by rw [upd_eq] at hk; exact hk)
section
variable {P : Program} {n : Nat} {W : Base} {fr : Fr} {L : List Own} {Q : Exit → Act → World → Prop} {ops : Array Oper} {rest : List Oper} {d : Nat}
theorem Mem.split {w : World} {q : Nat} {o : Own} (o1 o2 : Own) (h : Mem W L w) (hq : L[q]? = some o) (h1 : ∀ w, o.holds w → o1.holds w) (h2 : ∀ w, o.holds w → o2.holds w) (f1 : ∀ k, o1.foot k → o.foot k) (f2 : ∀ k, o2.foot k → o.foot k) (ha : ∀ w, o.holds w → ∀ k, o1.foot k → ¬ o2.foot k) : Mem W (L.set q o1 ++ [o2]) w := by
  have hr := h.reown o1 hq h1 f1
  have hoq := h.owns.all q o hq
  have hlen : q < L.length := (List.getElem?_eq_some_iff.1 hq).1
  refine ⟨h.low, OwnsP.both hr.owns (OwnsP.one (h2 w hoq.1) fun k hk => hoq.2 k (f2 k hk)) fun i j a b hi hj k hk hk' => ?_⟩
  match j, hj with
  | 0, hj =>
    simp only [List.getElem?_cons_zero, Option.some.injEq] at hj; subst hj
    by_cases e : q = i
    · subst e
      rw [List.getElem?_set_self hlen] at hi
      simp only [Option.some.injEq] at hi; subst hi
      exact ha w hoq.1 k hk hk'
    · rw [List.getElem?_set_ne e] at hi
      exact h.owns.apart i q a o (Ne.symm e) hi hq k hk (f2 k hk')
  | j + 1, hj => simp at hj
theorem Mem.merge2A {w : World} (o : Own) (i j : Nat) (js : List Nat) {o1 o2 : Own} {R : List Own} (h : Mem W L w) (hn : ([i, j] ++ js).Nodup) (h1 : L[i]? = some o1) (h2 : L[j]? = some o2) (hR : R = js.filterMap fun i => L[i]?) (hf : ∀ k, o.foot k → o1.foot k ∨ o2.foot k) (hh : ∀ w, o1.holds w → o2.holds w → (∀ k, o1.foot k → ¬ o2.foot k) → o.holds w) : Mem W (R ++ [o]) w := by
  have hij : i ≠ j := fun e => by subst e; simp at hn
  have ha := h.owns.apart i j o1 o2 hij h1 h2
  refine Mem.merge o (h.pick ([i, j] ++ js) hn ?_) hf (fun a b => hh w a b ha)
  rw [List.filterMap_append, ← hR]
  congr 1
  rw [List.filterMap_cons_some (by exact h1), List.filterMap_cons_some (by exact h2)]; rfl
theorem Mem.take {w : World} {q : Nat} {D : Nat → Prop} {f : Nat → Own} (i : Nat) (h : Mem W L w) (hq : L[q]? = some (famP D f)) (hi : D i) : Mem W (L.set q (famP (fun k => D k ∧ k ≠ i) f) ++ [f i]) w :=
  h.split _ _ hq (fun w h => fam_congr (fun k h => h.1) (fun _ _ => rfl) w h) (fun w h => h.1 i hi) (fun k h => fam_foot (fun k h => h.1) (fun _ _ => rfl) k h) (fun k h => .inr ⟨i, hi, h⟩) fun w h k hk hk' => by
    rcases hk with hk | ⟨j, ⟨hj, hne⟩, hk⟩
    · cases hk
    · exact h.2 j i hj hi hne k hk hk'
theorem T_take {c : Code} {q : Nat} {D : Nat → Prop} {f : Nat → Own} (i : Nat) (hq : L[q]? = some (famP D f)) (hi : D i) (h : T P n W c Q fr (L.set q (famP (fun k => D k ∧ k ≠ i) f) ++ [f i])) : T P n W c Q fr L := ⟨fun a w hr hm => h.go a w hr (hm.take i hq hi)⟩
theorem Mem.put {w : World} {D D' : Nat → Prop} {f f' : Nat → Own} {o : Own} {R : List Own} (x q j : Nat) (js : List Nat) (h : Mem W L w) (hn : ([q, j] ++ js).Nodup) (hq : L[q]? = some (famP D f)) (hj : L[j]? = some o) (hR : R = js.filterMap fun i => L[i]?) (hx : ¬ D x) (hD : ∀ k, D' k → D k ∨ k = x) (hf : ∀ k, D' k → f' k = upd f x o k) : Mem W (R ++ [famP D' f']) w :=
  h.merge2A _ q j js hn hq hj hR (fun k hk => fam_putF hx k (fam_foot hD hf k hk)) fun w h1 h2 h3 => fam_congr hD hf w (fam_put hx h1 h2 h3)
theorem E_put {e : Exit} {D D' : Nat → Prop} {f f' : Nat → Own} {o : Own} {R : List Own} (x q j : Nat) (js : List Nat) (hn : ([q, j] ++ js).Nodup) (hq : L[q]? = some (famP D f)) (hj : L[j]? = some o) (hR : R = js.filterMap fun i => L[i]?) (hx : ¬ D x) (hD : ∀ k, D' k → D k ∨ k = x) (hf : ∀ k, D' k → f' k = upd f x o k) (h : E n W e Q fr (R ++ [famP D' f'])) : E n W e Q fr L := ⟨fun a w hr hm => h.go a w hr (hm.put x q j js hn hq hj hR hx hD hf)⟩
theorem row_cell {g off size cap m k : Nat} {e : TypeId} {xs : List Value} {v : Value} {w : World} (h : (rowO e size (.slice (some ⟨g, 0, none⟩) m cap) k xs).holds w) (hv : xs[off]? = some v) : w.cell? ⟨g, off, none⟩ = some v := by
  have h : w.ownsRow 0 e size (.slice (some ⟨g, 0, none⟩) m cap) k xs := h
  have := h.cells (g := g) rfl off v hv
  rwa [addr_add, Nat.zero_add] at this
/-! ### rows that a function tells -/
def tabA {α : Type} (len : Nat) (f : Nat → α) : List α := (List.range len).map f
section
variable {α : Type}
theorem tabA_len (len : Nat) (f : Nat → α) : (tabA len f).length = len := by simp [tabA]
theorem tabA_get {len : Nat} (f : Nat → α) {k : Nat} (h : k < len) : (tabA len f)[k]? = some (f k) := by simp [tabA, h]
theorem tabA_set {len : Nat} (f g : Nat → α) (k : Nat) (v : α) (h : ∀ i, i < len → g i = if i = k then v else f i) : (tabA len f).set k v = tabA len g := by
  apply List.ext_getElem?
  intro i
  rw [List.getElem?_set]
  by_cases hi : i < len
  · rw [tabA_get g hi, h i hi]
    by_cases e : k = i
    · subst e; simp [tabA_len, hi]
    · rw [if_neg e, if_neg (fun e' => e e'.symm), tabA_get f hi]
  · have h1 : (tabA len g)[i]? = none := List.getElem?_eq_none (by rw [tabA_len]; omega)
    have h2 : (tabA len f)[i]? = none := List.getElem?_eq_none (by rw [tabA_len]; omega)
    rw [h1, h2]
    by_cases e : k = i
    · subst e; simp [tabA_len, hi]
    · rw [if_neg e]
theorem tabA_congr {len : Nat} {f g : Nat → α} (h : ∀ i, i < len → f i = g i) : tabA len f = tabA len g := by
  unfold tabA
  apply List.map_congr_left
  intro i hi
  exact h i (by simpa using hi)
theorem tabA_const (val : α → Value) (a : α) (len : Nat) : (tabA len fun _ => a).map val = List.replicate len (val a) := by
  unfold tabA
  rw [List.map_map]
  apply List.ext_getElem?
  intro i
  by_cases h : i < len <;> simp [h]
/-- a row of one-cell elements -/
def rowA (e : TypeId) (val : α → Value) (g len : Nat) (f : Nat → α) : Own := rowO e 1 (.slice (some ⟨g, 0, none⟩) len len) len ((tabA len f).map val)
theorem rowA_congr {e : TypeId} {val : α → Value} {g len : Nat} {f f' : Nat → α} (h : ∀ i, i < len → f i = f' i) : rowA e val g len f = rowA e val g len f' := by unfold rowA; rw [tabA_congr h]
theorem at_rowA {e : TypeId} {val : α → Value} {i g len k : Nat} {f : Nat → α} (hi : L[i]? = some (rowA e val g len f)) (hk : k < len) : At W L ⟨g, 0 + k, none⟩ (val (f k)) := at_row hi (by rw [Nat.zero_add, List.getElem?_map, tabA_get f hk]; rfl)
theorem rowA_cell {e : TypeId} {val : α → Value} {g len k : Nat} {f : Nat → α} {w : World} (h : (rowA e val g len f).holds w) (hk : k < len) : w.cell? ⟨g, 0 + k, none⟩ = some (val (f k)) := row_cell h (by rw [Nat.zero_add, List.getElem?_map, tabA_get f hk]; rfl)
theorem rowA_set {e : TypeId} {val : α → Value} {g len k : Nat} {v : α} {f f' : Nat → α} (h : ∀ i, i < len → f' i = if i = k then v else f i) : rowO e 1 (.slice (some ⟨g, 0, none⟩) len len) len (((tabA len f).map val).set k (val v)) = rowA e val g len f' := by
  unfold rowA
  rw [← List.map_set, tabA_set f f' k v h]
theorem TL_storeA {e : TypeId} {val : α → Value} {ty : TypeId} {pos : String} {after : Array Edge} {t : TypeId} {p x : Operand} {i g off len : Nat} {v : α} {f : Nat → α} (f' : Nat → α) (hT : Ty P t false 1) (hi : L[i]? = some (rowA e val g len f)) (hp : ev fr p = some (.pointer (some ⟨g, 0 + off, none⟩))) (hx : ev fr x = some (val v)) (h1 : (val v).cells = #[val v]) (h2 : (val v).oneCell' = true) (hk : off < len) (hf : ∀ i, i < len → f' i = if i = off then v else f i)
    (h : TL P n W ops Q rest fr (L.set i (rowA e val g len f'))) : TL P n W ops Q (⟨none, .store t p x, ty, pos, after, none⟩ :: rest) fr L :=
  TL_storeRow hT hi hp hx h1 rfl h2 (by rw [List.length_map, tabA_len, Nat.zero_add]; exact hk) (by rw [Nat.zero_add, rowA_set hf]; exact h)
theorem TL_makeA {t e : TypeId} {x y : Operand} {bytes m : Nat} {k k' : IntKind} {ty : TypeId} {pos : String} {after : Array Edge} (val : α → Value) (z : α) [ElC P t e 1 bytes] [ZeroC P e #[val z]] (hx : ev fr x = some (.int k (m : Int))) (hy : ev fr y = some (.int k' (m : Int))) (hb : bytes * m ≤ 281474976710656) (h63 : m ≤ 9223372036854775807) (hn : Nat.blt d n = true)
    (h : ∀ g, TL P n W ops Q rest ((d, .slice (some ⟨g, 0, none⟩) m m) :: fr) (L ++ [rowA e val g m fun _ => z])) : TL P n W ops Q (⟨some d, .makeSlice t x y, ty, pos, after, none⟩ :: rest) fr L :=
  TL_makeRow hx hy hb h63 hn fun g => by
    have := h g
    unfold rowA at this
    rw [tabA_const] at this
    exact this
end
end
end Go.Proofs.YtkcnoompimohnaaDoor.eng

