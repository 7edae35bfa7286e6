/- What each kind of operation yields. -/
import Derived.Test.YtnicebdkejkieaaStep
import Derived.Laws.BitsLemmas
namespace Go.Proofs.Ytnicebdkejkieaa.eng
open Go.RowKit kit mix

/-- a text -/
def str (l : List UInt8) : Value := .string ⟨l.toArray⟩
theorem str_of (s : ByteArray) : Value.string s = str s.data.toList := by unfold str; congr
/-- a type's layout: is it a struct or an array; how many cells has it? -/
structure Ty (P : Program) (t : TypeId) (agg : Bool) (c : Nat) : Prop where
  agg : ∀ w, (isAgg t).run P w = .ok agg w
  size : ∀ w, (sizeOf t).run P w = .ok c w
def tyB (P : Program) (t : TypeId) (agg : Bool) (c : Nat) : Bool :=
  (match P.underlying t with | some (.struct _) => agg | some (.array _ _) => agg | some _ => !agg | none => false) && (match P.info? t with | some i => Nat.beq i.size c | none => false)
theorem Ty.of {P : Program} {t : TypeId} {agg : Bool} {c : Nat} (h : tyB P t agg c = true) : Ty P t agg c := by
  unfold tyB at h
  rw [Bool.and_eq_true] at h
  obtain ⟨h1, h2⟩ := h
  refine ⟨fun w => ?_, fun w => ?_⟩
  · cases e : P.underlying t with
    | none => rw [e] at h1; cases h1
    | some d =>
      rw [e] at h1
      cases agg <;> cases d <;> first | (cases h1; done) | simp [isAgg, run_underlying e]
  · cases e : P.info? t with
    | none => rw [e] at h2; cases h2
    | some i =>
      rw [e] at h2
      obtain rfl : i.size = c := Nat.eq_of_beq_eq_true h2
      simp [sizeOf, typeInfo, e]
section
variable {P : Program} {n : Nat} {W : Base} {fr : Fr} {L : List Own} {dst : Option Tmp} {ty : TypeId} {pos : String} {after : Array Edge} {guard : Option (Nat × Bool)}

theorem rr_move {x : Operand} {v : Value} (hx : ev fr x = some v) : RR P n W ⟨dst, .move x, ty, pos, after, guard⟩ fr L v := .mk fun a w hr _ => by
  show Result.ok (Next.value (a.eval x)) w = _; rw [hr.ev hx]
theorem rr_assign {x : Operand} {v : Value} (hx : ev fr x = some v) : RR P n W ⟨dst, .assign x, ty, pos, after, guard⟩ fr L v := .mk fun a w hr _ => by
  show Result.ok (Next.value (a.eval x)) w = _; rw [hr.ev hx]
theorem rr_pickT {c x y : Operand} {v : Value} (hc : ev fr c = some (.bool true)) (hx : ev fr x = some v) : RR P n W ⟨dst, .pick c x y, ty, pos, after, guard⟩ fr L v := .mk fun a w hr _ => by
  simp [execOp, hr.ev hc, hr.ev hx, asBool]
theorem rr_pickF {c x y : Operand} {v : Value} (hc : ev fr c = some (.bool false)) (hy : ev fr y = some v) : RR P n W ⟨dst, .pick c x y, ty, pos, after, guard⟩ fr L v := .mk fun a w hr _ => by
  simp [execOp, hr.ev hc, hr.ev hy, asBool]
theorem rr_extract {t : Operand} {i : Nat} {vs : Array Value} {v : Value} (ht : ev fr t = some (.tuple vs)) (hv : vs[i]? = some v) : RR P n W ⟨dst, .extract t i, ty, pos, after, guard⟩ fr L v := .mk fun a w hr _ => by
  simp [execOp, hr.ev ht, Instr.extract, hv]

/-! numbers -/
section
variable {t u : TypeId} {x y : Operand} {k : IntKind} {m m' : Int}
theorem rr_int {op : BinOp} {v : Value} (hx : ev fr x = some (.int k m)) (hy : ev fr y = some (.int k m')) (h : ∀ w, (binOp op t (.int k m) (.int k m')).run P w = .ok v w) : RR P n W ⟨dst, .binOp op t x y u, ty, pos, after, guard⟩ fr L v := .mk fun a w hr _ => by
  have e : (eqGuard op t x y (.int k m) (.int k m')).run P w = .ok () w := by
    unfold eqGuard; cases op <;> rfl
  simp [execOp, hr.ev hx, hr.ev hy, e, h]
theorem rr_add (hx : ev fr x = some (.int k m)) (hy : ev fr y = some (.int k m')) : RR P n W ⟨dst, .binOp .add t x y u, ty, pos, after, guard⟩ fr L (.int k (k.wrap (m + m'))) := rr_int hx hy fun w => by simp [binOp, Op.intArith]
theorem rr_sub (hx : ev fr x = some (.int k m)) (hy : ev fr y = some (.int k m')) : RR P n W ⟨dst, .binOp .sub t x y u, ty, pos, after, guard⟩ fr L (.int k (k.wrap (m - m'))) := rr_int hx hy fun w => by simp [binOp, Op.intArith]
theorem rr_mul (hx : ev fr x = some (.int k m)) (hy : ev fr y = some (.int k m')) : RR P n W ⟨dst, .binOp .mul t x y u, ty, pos, after, guard⟩ fr L (.int k (k.wrap (m * m'))) := rr_int hx hy fun w => by simp [binOp, Op.intArith]
theorem rr_addw {r : Int} (hx : ev fr x = some (.int k m)) (hy : ev fr y = some (.int k m')) (h : k.wrap (m + m') = r) : RR P n W ⟨dst, .binOp .add t x y u, ty, pos, after, guard⟩ fr L (.int k r) := h ▸ rr_add hx hy
theorem wrap_in {r : Int} (h0 : -9223372036854775808 ≤ r) (h1 : r ≤ 9223372036854775807) : IntKind.i64.wrap r = r := IntWalk.i64_in _ (by omega)
theorem rr_add64 {r : Int} (hx : ev fr x = some (.int .i64 m)) (hy : ev fr y = some (.int .i64 m')) (h0 : -9223372036854775808 ≤ m + m') (h1 : m + m' ≤ 9223372036854775807) (hr : m + m' = r) : RR P n W ⟨dst, .binOp .add t x y u, ty, pos, after, guard⟩ fr L (.int .i64 r) := by
  have := rr_add (P := P) (n := n) (W := W) (L := L) (dst := dst) (ty := ty) (pos := pos) (after := after) (guard := guard) (t := t) (u := u) hx hy; rwa [wrap_in h0 h1, hr] at this
theorem rr_sub64 {r : Int} (hx : ev fr x = some (.int .i64 m)) (hy : ev fr y = some (.int .i64 m')) (h0 : -9223372036854775808 ≤ m - m') (h1 : m - m' ≤ 9223372036854775807) (hr : m - m' = r) : RR P n W ⟨dst, .binOp .sub t x y u, ty, pos, after, guard⟩ fr L (.int .i64 r) := by
  have := rr_sub (P := P) (n := n) (W := W) (L := L) (dst := dst) (ty := ty) (pos := pos) (after := after) (guard := guard) (t := t) (u := u) hx hy; rwa [wrap_in h0 h1, hr] at this
theorem rr_mul64 {r : Int} (hx : ev fr x = some (.int .i64 m)) (hy : ev fr y = some (.int .i64 m')) (h0 : -9223372036854775808 ≤ m * m') (h1 : m * m' ≤ 9223372036854775807) (hr : m * m' = r) : RR P n W ⟨dst, .binOp .mul t x y u, ty, pos, after, guard⟩ fr L (.int .i64 r) := by
  have := rr_mul (P := P) (n := n) (W := W) (L := L) (dst := dst) (ty := ty) (pos := pos) (after := after) (guard := guard) (t := t) (u := u) hx hy; rwa [wrap_in h0 h1, hr] at this
/-- comparisons: what they say, as a Bool -/
theorem rr_lss {b : Bool} (hx : ev fr x = some (.int k m)) (hy : ev fr y = some (.int k m')) (h : decide (m < m') = b) : RR P n W ⟨dst, .binOp .lss t x y u, ty, pos, after, guard⟩ fr L (.bool b) := rr_int hx hy fun w => by simp [binOp, Op.intCmp, ← h]
theorem rr_leq {b : Bool} (hx : ev fr x = some (.int k m)) (hy : ev fr y = some (.int k m')) (h : decide (m ≤ m') = b) : RR P n W ⟨dst, .binOp .leq t x y u, ty, pos, after, guard⟩ fr L (.bool b) := rr_int hx hy fun w => by simp [binOp, Op.intCmp, ← h]
theorem rr_gtr {b : Bool} (hx : ev fr x = some (.int k m)) (hy : ev fr y = some (.int k m')) (h : decide (m' < m) = b) : RR P n W ⟨dst, .binOp .gtr t x y u, ty, pos, after, guard⟩ fr L (.bool b) := rr_int hx hy fun w => by simp [binOp, Op.intCmp, ← h]
theorem rr_geq {b : Bool} (hx : ev fr x = some (.int k m)) (hy : ev fr y = some (.int k m')) (h : decide (m' ≤ m) = b) : RR P n W ⟨dst, .binOp .geq t x y u, ty, pos, after, guard⟩ fr L (.bool b) := rr_int hx hy fun w => by simp [binOp, Op.intCmp, ← h]
theorem rr_eql {b : Bool} (hx : ev fr x = some (.int k m)) (hy : ev fr y = some (.int k m')) (h : decide (m = m') = b) : RR P n W ⟨dst, .binOp .eql t x y u, ty, pos, after, guard⟩ fr L (.bool b) := rr_int hx hy fun w => by
  have : (m == m') = b := by rw [← h]; exact Bool.beq_eq_decide_eq m m'
  simp [binOp, Op.intCmp, this]
theorem rr_neq {b : Bool} (hx : ev fr x = some (.int k m)) (hy : ev fr y = some (.int k m')) (h : decide (m ≠ m') = b) : RR P n W ⟨dst, .binOp .neq t x y u, ty, pos, after, guard⟩ fr L (.bool b) := rr_int hx hy fun w => by
  have : (m != m') = b := by rw [← h, bne, Bool.beq_eq_decide_eq]; simp
  simp [binOp, Op.intCmp, this]
theorem rr_bits {op : BinOp} {r : Int} (hop : op = .and ∨ op = .or ∨ op = .xor ∨ op = .andNot) (hx : ev fr x = some (.int k m)) (hy : ev fr y = some (.int k m')) (h : bits op k m m' = r) : RR P n W ⟨dst, .binOp op t x y u, ty, pos, after, guard⟩ fr L (.int k r) := rr_int hx hy fun w => by
  subst h; rcases hop with rfl | rfl | rfl | rfl <;> simp [binOp, Op.intBits, bits]
theorem rr_shift {op : BinOp} {k' : IntKind} {v : Value} (hop : op = .shl ∨ op = .shr) (hx : ev fr x = some (.int k m)) (hy : ev fr y = some (.int k' m')) (h : ∀ w, (Op.shift op k m k' m').run P w = .ok v w) : RR P n W ⟨dst, .binOp op t x y u, ty, pos, after, guard⟩ fr L v := .mk fun a w hr _ => by
  have e : (eqGuard op t x y (.int k m) (.int k' m')).run P w = .ok () w := by unfold eqGuard; rcases hop with rfl | rfl <;> rfl
  rcases hop with rfl | rfl <;> simp [execOp, hr.ev hx, hr.ev hy, e, binOp, h]
theorem rr_and {r : Int} (hx : ev fr x = some (.int k m)) (hy : ev fr y = some (.int k m')) (h : bits .and k m m' = r) : RR P n W ⟨dst, .binOp .and t x y u, ty, pos, after, guard⟩ fr L (.int k r) := rr_bits (.inl rfl) hx hy h
theorem rr_or {r : Int} (hx : ev fr x = some (.int k m)) (hy : ev fr y = some (.int k m')) (h : bits .or k m m' = r) : RR P n W ⟨dst, .binOp .or t x y u, ty, pos, after, guard⟩ fr L (.int k r) := rr_bits (.inr (.inl rfl)) hx hy h
theorem rr_xor {r : Int} (hx : ev fr x = some (.int k m)) (hy : ev fr y = some (.int k m')) (h : bits .xor k m m' = r) : RR P n W ⟨dst, .binOp .xor t x y u, ty, pos, after, guard⟩ fr L (.int k r) := rr_bits (.inr (.inr (.inl rfl))) hx hy h
theorem rr_shl {k' : IntKind} {v : Value} (hx : ev fr x = some (.int k m)) (hy : ev fr y = some (.int k' m')) (h : ∀ w, (Op.shift .shl k m k' m').run P w = .ok v w) : RR P n W ⟨dst, .binOp .shl t x y u, ty, pos, after, guard⟩ fr L v := rr_shift (.inl rfl) hx hy h
theorem rr_shr {k' : IntKind} {v : Value} (hx : ev fr x = some (.int k m)) (hy : ev fr y = some (.int k' m')) (h : ∀ w, (Op.shift .shr k m k' m').run P w = .ok v w) : RR P n W ⟨dst, .binOp .shr t x y u, ty, pos, after, guard⟩ fr L v := rr_shift (.inr rfl) hx hy h
theorem rr_conv {k' : IntKind} {r : Int} (hs : P.underlying t = some (.int k')) (hd : P.underlying u = some (.int k)) (hx : ev fr x = some (.int k' m)) (h : k.wrap m = r) : RR P n W ⟨dst, .convert t u x, ty, pos, after, guard⟩ fr L (.int k r) := .mk fun a w hr _ => by
  simp [execOp, hr.ev hx, convert, run_underlying hs, run_underlying hd, Conv.intToInt, h]
end
theorem rr_not {t : TypeId} {x : Operand} {b c : Bool} (hx : ev fr x = some (.bool b)) (h : (!b) = c) : RR P n W ⟨dst, .unOp .not t x, ty, pos, after, guard⟩ fr L (.bool c) := .mk fun a w hr _ => by
  subst h; simp [execOp, hr.ev hx, Op.unary]
theorem rr_min {t u : TypeId} {x y : Operand} {m m' r : Int} (hx : ev fr x = some (.int .i64 m)) (hy : ev fr y = some (.int .i64 m')) (h : min m m' = r) : RR P n W ⟨dst, .call { callee := .builtin .min, args := #[x, y], argTypes := #[t, u] }, ty, pos, after, guard⟩ fr L (.int .i64 r) := .mk fun a w hr _ => by
  subst h
  have h1 := hr.ev hx
  have h2 := hr.ev hy
  have e : (if m' < m then m' else m) = min m m' := by split <;> omega
  simp [BigFrame.execOp_builtin, BigFrame.builtin_min, h1, h2, Builtin.min_, Builtin.min2, e]
theorem rr_max {t u : TypeId} {x y : Operand} {m m' r : Int} (hx : ev fr x = some (.int .i64 m)) (hy : ev fr y = some (.int .i64 m')) (h : max m m' = r) : RR P n W ⟨dst, .call { callee := .builtin .max, args := #[x, y], argTypes := #[t, u] }, ty, pos, after, guard⟩ fr L (.int .i64 r) := .mk fun a w hr _ => by
  subst h
  have h1 := hr.ev hx
  have h2 := hr.ev hy
  have e : (if m' > m then m' else m) = max m m' := by split <;> omega
  have e2 : (if m < m' then m' else m) = max m m' := e
  simp [BigFrame.execOp_builtin, BigFrame.builtin_max, h1, h2, Builtin.max_, Builtin.max2, e2]
/-! truth values -/
theorem run_eqBool {t : TypeId} {a b : Bool} (ht : P.underlying t = some .bool) (d : Nat) (w : World) : (Op.equalIn (d + 1) t (.bool a) (.bool b)).run P w = .ok (a == b) w := by simp [Op.equalIn, run_underlying ht]
theorem rr_booleq {t u : TypeId} {x y : Operand} {a b c : Bool} (ht : P.underlying t = some .bool) (hx : ev fr x = some (.bool a)) (hy : ev fr y = some (.bool b)) (h : (a == b) = c) : RR P n W ⟨dst, .binOp .eql t x y u, ty, pos, after, guard⟩ fr L (.bool c) := .mk fun ac w hr _ => by
  have e : (eqGuard .eql t x y (.bool a) (.bool b)).run P w = .ok () w := rfl
  have e2 : (binOp .eql t (.bool a) (.bool b)).run P w = .ok (.bool c) w := by
    show ((Op.equal t (.bool a) (.bool b)) >>= fun r => pure (Value.bool r)).run P w = _
    have : (Op.equal t (.bool a) (.bool b)).run P w = .ok (a == b) w := run_eqBool ht 9999 w
    rw [Sem.run_bind, this, h]; rfl
  simp [execOp, hr.ev hx, hr.ev hy, e, e2]
theorem rr_boolne {t u : TypeId} {x y : Operand} {a b c : Bool} (ht : P.underlying t = some .bool) (hx : ev fr x = some (.bool a)) (hy : ev fr y = some (.bool b)) (h : (!(a == b)) = c) : RR P n W ⟨dst, .binOp .neq t x y u, ty, pos, after, guard⟩ fr L (.bool c) := .mk fun ac w hr _ => by
  have e : (eqGuard .neq t x y (.bool a) (.bool b)).run P w = .ok () w := rfl
  have e2 : (binOp .neq t (.bool a) (.bool b)).run P w = .ok (.bool c) w := by
    show ((Op.equal t (.bool a) (.bool b)) >>= fun r => pure (Value.bool (!r))).run P w = _
    have : (Op.equal t (.bool a) (.bool b)).run P w = .ok (a == b) w := run_eqBool ht 9999 w
    rw [Sem.run_bind, this]
    show Result.ok (Value.bool (!(a == b))) w = _
    rw [h]
  simp [execOp, hr.ev hx, hr.ev hy, e, e2]
/-! texts -/
section
variable {t u : TypeId} {x y : Operand} {l l' : List UInt8}
theorem rr_strlen (ht : P.underlying t = some .string) (hx : ev fr x = some (str l)) : RR P n W ⟨dst, .call { callee := .builtin .len, args := #[x], argTypes := #[t] }, ty, pos, after, guard⟩ fr L (.int .i64 l.length) := .mk fun a w hr _ => by
  have hx' := hr.ev hx
  unfold str at hx'
  have hsz : (ByteArray.mk l.toArray).size = l.length := List.size_toArray
  simp [BigFrame.execOp_builtin, BigFrame.builtin_len, Builtin.len_, hx', run_underlying ht, goInt, hsz]
theorem str_toList (l : List UInt8) : (ByteArray.mk l.toArray).toList = l := by
  have h : ∀ (m : List UInt8) (i : Nat) (r : List UInt8), i + m.length = l.length → l.drop i = m → ByteArray.toList.loop ⟨l.toArray⟩ i r = r.reverse ++ m := by
    intro m
    induction m with
    | nil =>
      intro i r hi _
      unfold ByteArray.toList.loop
      rw [if_neg (by simp [ByteArray.size] at *; omega)]; simp
    | cons b m ih =>
      intro i r hi hd
      unfold ByteArray.toList.loop
      have hlt : i < l.length := by simp at hi; omega
      rw [if_pos (by simpa [ByteArray.size] using hlt)]
      rw [List.drop_eq_getElem_cons hlt] at hd
      injection hd with h1 h2
      rw [ih (i + 1) _ (by simp at hi; omega) h2]
      have : (ByteArray.mk l.toArray).get! i = b := by simp [ByteArray.get!, hlt, h1]
      rw [this]; simp
  unfold ByteArray.toList
  rw [h l 0 [] (by simp) rfl]; simp
theorem rr_streq {b : Bool} (hx : ev fr x = some (str l)) (hy : ev fr y = some (str l')) (h : decide (l = l') = b) : RR P n W ⟨dst, .binOp .eql t x y u, ty, pos, after, guard⟩ fr L (.bool b) := .mk fun a w hr _ => by
  have e : (eqGuard .eql t x y (str l) (str l')).run P w = .ok () w := rfl
  have e2 : (l == l') = b := by rw [← h]; exact Bool.beq_eq_decide_eq l l'
  unfold str at *
  simp [execOp, hr.ev hx, hr.ev hy, e, binOp, Op.stringOp, str_toList, e2]
theorem rr_strne {b : Bool} (hx : ev fr x = some (str l)) (hy : ev fr y = some (str l')) (h : decide (l ≠ l') = b) : RR P n W ⟨dst, .binOp .neq t x y u, ty, pos, after, guard⟩ fr L (.bool b) := .mk fun a w hr _ => by
  have e : (eqGuard .neq t x y (str l) (str l')).run P w = .ok () w := rfl
  have e2 : (!(l == l')) = b := by rw [← h, Bool.beq_eq_decide_eq]; simp
  unfold str at *
  simp [execOp, hr.ev hx, hr.ev hy, e, binOp, Op.stringOp, str_toList, e2]
theorem rr_stradd (hx : ev fr x = some (str l)) (hy : ev fr y = some (str l')) (h : l.length + l'.length ≤ 9223372036854775807) : RR P n W ⟨dst, .binOp .add t x y u, ty, pos, after, guard⟩ fr L (str (l ++ l')) := .mk fun a w hr _ => by
  have e : (eqGuard .add t x y (str l) (str l')).run P w = .ok () w := rfl
  have e2 := run_string_add_sum (P := P) w ⟨l.toArray⟩ ⟨l'.toArray⟩ (by simpa [ByteArray.size] using h)
  rw [ByteArray.mk_append_mk] at e2
  unfold str at *
  simp [execOp, hr.ev hx, hr.ev hy, e, binOp, e2]
theorem rr_stridx {i : Int} {b : UInt8} {k : IntKind} (ht : P.underlying t = some .string) (hx : ev fr x = some (str l)) (hy : ev fr y = some (.int k i)) (h0 : 0 ≤ i) (h : l[i.toNat]? = some b) : RR P n W ⟨dst, .index t x y, ty, pos, after, guard⟩ fr L (.int .u8 b.toNat) := .mk fun a w hr _ => by
  have hlt := (List.getElem?_eq_some_iff.1 h).1
  have e : (if 0 ≤ i then (ByteArray.mk l.toArray)[i.toNat]? else none) = some b := by
    rw [if_pos h0]
    have hs : i.toNat < (ByteArray.mk l.toArray).size := by simpa [ByteArray.size] using hlt
    rw [getElem?_pos (ByteArray.mk l.toArray) i.toNat hs]
    have := (List.getElem?_eq_some_iff.1 h).2
    exact congrArg some (by rw [← this]; rfl)
  unfold str at *
  simp only [execOp, hr.ev hx, hr.ev hy, Instr.index, asIntOf, Sem.run_bind, Sem.run_pure, Result.andThen_ok, run_underlying ht, e]
/-- 's[lo:hi]', either bound left out or not -/
theorem rr_strslice {lo hi : Option Operand} {i j : Int} (ht : P.underlying t = some .string) (hx : ev fr x = some (str l)) (hlo : match lo with | none => i = 0 | some z => ∃ k, ev fr z = some (.int k i)) (hhi : match hi with | none => j = l.length | some z => ∃ k, ev fr z = some (.int k j))
    (h0 : 0 ≤ i) (h1 : i ≤ j) (h2 : j ≤ l.length) : RR P n W ⟨dst, .slice t x lo hi none, ty, pos, after, guard⟩ fr L (str ((l.take j.toNat).drop i.toNat)) := .mk fun a w hr _ => by
  have hsz : (ByteArray.mk l.toArray).size = l.length := by simp [ByteArray.size]
  have ex : ∀ p q, (ByteArray.mk l.toArray).extract p q = ⟨((l.take q).drop p).toArray⟩ := fun p q => by
    apply ByteArray.ext; simp [ByteArray.data_extract, List.extract_eq_take_drop, List.drop_take]
  have h2' : j ≤ ((ByteArray.mk l.toArray).size : Int) := by rw [hsz]; exact h2
  have h0j : 0 ≤ j := by omega
  have ej : (j.toNat : Int) = j := Int.toNat_of_nonneg h0j
  unfold str at *
  cases lo <;> cases hi
  · simp only at hlo hhi
    subst hlo hhi
    simp [execOp, hr.ev hx, Instr.sliceAt, Instr.slice, run_underlying ht, Instr.sliceBounds, ex, hsz]
  · obtain ⟨k, hk⟩ := hhi
    simp only at hlo
    subst hlo
    simp [execOp, hr.ev hx, hr.ev hk, Instr.sliceAt, Instr.slice, run_underlying ht, Instr.sliceBounds, run_sliceBound, ex, hsz, h0j, h2]
  · obtain ⟨k, hk⟩ := hlo
    simp only at hhi
    subst hhi
    simp [execOp, hr.ev hx, hr.ev hk, Instr.sliceAt, Instr.slice, run_underlying ht, Instr.sliceBounds, run_sliceBound, ex, hsz, h0, h1]
  · obtain ⟨k, hk⟩ := hlo
    obtain ⟨k', hk'⟩ := hhi
    have h1' : i ≤ (j.toNat : Int) := by omega
    have hb := fun c => run_sliceBound (P := P) w k i j.toNat c h0 h1'
    simp [execOp, hr.ev hx, hr.ev hk, hr.ev hk', Instr.sliceAt, Instr.slice, run_underlying ht, Instr.sliceBounds, run_sliceBound w k' j, hb, ex, hsz, h0j, h2]
/-- 's[i:]', 's[:j]', 's[i:j]' -/
theorem rr_strfrom {z : Operand} {k : IntKind} {i : Nat} (ht : P.underlying t = some .string) (hx : ev fr x = some (str l)) (hz : ev fr z = some (.int k (i : Int))) (h : i ≤ l.length) : RR P n W ⟨dst, .slice t x (some z) none none, ty, pos, after, guard⟩ fr L (str (l.drop i)) := by
  have := rr_strslice (P := P) (n := n) (W := W) (fr := fr) (L := L) (dst := dst) (ty := ty) (pos := pos) (after := after) (guard := guard) (lo := some z) (hi := none) (i := (i : Int)) (j := (l.length : Int)) ht hx ⟨k, hz⟩ rfl (by omega) (by omega) (by omega)
  rwa [Int.toNat_natCast, Int.toNat_natCast, List.take_of_length_le (Nat.le_refl _)] at this
theorem rr_strupto {z : Operand} {k : IntKind} {j : Nat} (ht : P.underlying t = some .string) (hx : ev fr x = some (str l)) (hz : ev fr z = some (.int k (j : Int))) (h : j ≤ l.length) : RR P n W ⟨dst, .slice t x none (some z) none, ty, pos, after, guard⟩ fr L (str (l.take j)) := by
  have := rr_strslice (P := P) (n := n) (W := W) (fr := fr) (L := L) (dst := dst) (ty := ty) (pos := pos) (after := after) (guard := guard) (lo := none) (hi := some z) (i := 0) (j := (j : Int)) ht hx rfl ⟨k, hz⟩ (by omega) (by omega) (by omega)
  rwa [Int.toNat_natCast, Int.toNat_zero, List.drop_zero] at this
theorem rr_strsub {z z' : Operand} {k k' : IntKind} {i j : Nat} (ht : P.underlying t = some .string) (hx : ev fr x = some (str l)) (hz : ev fr z = some (.int k (i : Int))) (hz' : ev fr z' = some (.int k' (j : Int))) (h0 : i ≤ j) (h : j ≤ l.length) : RR P n W ⟨dst, .slice t x (some z) (some z') none, ty, pos, after, guard⟩ fr L (str ((l.drop i).take (j - i))) := by
  have := rr_strslice (P := P) (n := n) (W := W) (fr := fr) (L := L) (dst := dst) (ty := ty) (pos := pos) (after := after) (guard := guard) (lo := some z) (hi := some z') (i := (i : Int)) (j := (j : Int)) ht hx ⟨k, hz⟩ ⟨k', hz'⟩ (by omega) (by omega) (by omega)
  rwa [Int.toNat_natCast, Int.toNat_natCast, List.drop_take] at this
end
end
end Go.Proofs.Ytnicebdkejkieaa.eng
