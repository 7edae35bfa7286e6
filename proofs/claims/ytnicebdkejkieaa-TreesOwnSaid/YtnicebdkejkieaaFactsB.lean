/- What facts.add, begin compute. -/
import Derived.Test.YtnicebdkejkieaaFactsA
namespace Go.Proofs.Ytnicebdkejkieaa.eng
open Go.RowKit kit mix gramL factsL
theorem bits_orN {x y : Nat} (hx : x < 18446744073709551616) (hy : y < 18446744073709551616) : bits .or .u64 (x : Int) (y : Int) = ((x ||| y : Nat) : Int) := by
  have h := bits_nat .u64 64 (by decide) (fun n h0 h1 => by rw [IntKind.wrap_u64]; omega) x y (by simpa using hx) (by simpa using hy)
  exact h.2
theorem or_lt {x y : Nat} (hx : x < 18446744073709551616) (hy : y < 18446744073709551616) : x ||| y < 18446744073709551616 := Nat.or_lt_two_pow (n := 64) hx hy
theorem pow_lt64 {m : Nat} (h : m < 64) : 2 ^ m < 18446744073709551616 := by
  have : (2 : Nat) ^ m < 2 ^ 64 := Nat.pow_lt_pow_right (by decide) h
  simpa using this
theorem shl1 {P : Program} (m : Nat) (hm : m < 64) (w : World) : (Op.shift .shl .u64 1 .i64 (m : Int)).run P w = .ok (.int .u64 ((2 ^ m : Nat) : Int)) w := by
  have e : min m 64 = m := by omega
  have hp := pow_lt64 hm
  have e2 : (2 : Int) ^ m = ((2 ^ m : Nat) : Int) := by rw [Int.natCast_pow]; rfl
  have e3 : IntKind.u64.wrap ((1 : Int) * 2 ^ m) = ((2 ^ m : Nat) : Int) := by
    rw [e2, IntKind.wrap_u64, Int.one_mul]
    generalize 2 ^ m = q at hp
    omega
  have h0 : ¬ ((m : Int) < 0) := by omega
  simp only [Op.shift, if_neg h0, IntKind.bits, Int.toNat_natCast, e, e3, Sem.run_pure]
attribute [local irreducible] Op.shift Go.bits in
set_option maxHeartbeats 1000000 in
theorem add_calls (g cap : Nat) (l : List Nat) (i b : Nat) (w : World) (B : Base) (hi : i < l.length) (h64 : ∀ x ∈ l, x < 18446744073709551616) (hb : b < 18446744073709551616) (hm : Mem B [rowO 54 1 (.slice (some ⟨g, 0, none⟩) l.length cap) l.length (l.map bitV)] w) :
    Calls Try.prog 87 #[.slice (some ⟨g, 0, none⟩) l.length cap, .int .i64 (i : Int), bitV b] w (MeetsB ⟨fun (_ : Unit) => True, fun _ => .bool (addF l i b).2, fun _ => [rowO 54 1 (.slice (some ⟨g, 0, none⟩) l.length cap) l.length ((addF l i b).1.map bitV)]⟩ B) := by
  have hc := bit_at hi
  have hx64 : l.getD i 0 < 18446744073709551616 := by
    have e : l.getD i 0 = l[i] := by rw [List.getD_eq_getElem?_getD, List.getElem?_eq_getElem hi]; rfl
    rw [e]; exact h64 _ (List.getElem_mem hi)
  refine enterB hm (args := [.slice (some ⟨g, 0, none⟩) l.length cap, .int .i64 (i : Int), bitV b]) (n := 25) Try.func87 rfl rfl rfl ?_
  unfold addF
  generalize l.getD i 0 = x at *
  have hor := bits_orN hx64 hb
  have hset : ((l.map bitV).set i (.int .u64 ((x ||| b : Nat) : Int)))[0 + i]? = some (.int .u64 ((x ||| b : Nat) : Int)) := by
    rw [Nat.zero_add, List.getElem?_set_self (by simpa using hi)]
  generalize x ||| b = y at *
  by_cases c : y = x
  · rw [show (!decide (y = x)) = false by simp [c]]
    repeat (first
      | refine qv rfl (qp rfl) rfl rfl ?_ | refine TL_nil ?_ | refine T_seq ?_ | refine T_region ?_ | refine T_ret ?_ | refine E_then ?_ | refine E_thenR ?_
      | refine qv rfl (rr_idx1 Und.eq TyC.ty rfl rfl hi) rfl rfl ?_
      | refine qv rfl (rr_load1 TyC.ty rfl (at_row (i := 0) rfl (by rw [Nat.zero_add]; exact hc))) rfl rfl ?_ | refine qv rfl (rr_or rfl rfl hor) rfl rfl ?_
      | refine qv rfl (rr_neq rfl rfl (qT (by omega))) rfl rfl ?_ | refine qv rfl (rr_neq rfl rfl (qF (by omega))) rfl rfl ?_)
    refine TL_storeRow (i := 0) TyC.ty rfl rfl rfl rfl rfl rfl (by simpa using hi) ?_
    conv => arg 8; simp only [List.set_cons_zero, Nat.zero_add]
    repeat (first
      | refine qv rfl (qp rfl) rfl rfl ?_ | refine TL_nil ?_ | refine T_seq ?_ | refine T_region ?_ | refine T_ret ?_ | refine E_then ?_ | refine E_thenR ?_
      | refine qv rfl (rr_idx1 Und.eq TyC.ty rfl rfl hi) rfl rfl ?_ | refine qv rfl (rr_load1 TyC.ty rfl (at_row (i := 0) rfl hset)) rfl rfl ?_
      | refine qv rfl (rr_neq rfl rfl (qT (by omega))) rfl rfl ?_ | refine qv rfl (rr_neq rfl rfl (qF (by omega))) rfl rfl ?_)
    exact E_ret1 rfl rfl fun w hm => hm.meetsB (S := ⟨fun (_ : Unit) => True, fun _ => .bool false, fun _ => [rowO 54 1 (.slice (some ⟨g, 0, none⟩) l.length cap) l.length ((l.set i y).map bitV)]⟩) () trivial [0] (by decide) (by simp [List.map_set]; rfl)
  · rw [show (!decide (y = x)) = true by simp [c]]
    repeat (first
      | refine qv rfl (qp rfl) rfl rfl ?_ | refine TL_nil ?_ | refine T_seq ?_ | refine T_region ?_ | refine T_ret ?_ | refine E_then ?_ | refine E_thenR ?_
      | refine qv rfl (rr_idx1 Und.eq TyC.ty rfl rfl hi) rfl rfl ?_
      | refine qv rfl (rr_load1 TyC.ty rfl (at_row (i := 0) rfl (by rw [Nat.zero_add]; exact hc))) rfl rfl ?_ | refine qv rfl (rr_or rfl rfl hor) rfl rfl ?_
      | refine qv rfl (rr_neq rfl rfl (qT (by omega))) rfl rfl ?_ | refine qv rfl (rr_neq rfl rfl (qF (by omega))) rfl rfl ?_)
    refine TL_storeRow (i := 0) TyC.ty rfl rfl rfl rfl rfl rfl (by simpa using hi) ?_
    conv => arg 8; simp only [List.set_cons_zero, Nat.zero_add]
    repeat (first
      | refine qv rfl (qp rfl) rfl rfl ?_ | refine TL_nil ?_ | refine T_seq ?_ | refine T_region ?_ | refine T_ret ?_ | refine E_then ?_ | refine E_thenR ?_
      | refine qv rfl (rr_idx1 Und.eq TyC.ty rfl rfl hi) rfl rfl ?_ | refine qv rfl (rr_load1 TyC.ty rfl (at_row (i := 0) rfl hset)) rfl rfl ?_
      | refine qv rfl (rr_neq rfl rfl (qT (by omega))) rfl rfl ?_ | refine qv rfl (rr_neq rfl rfl (qF (by omega))) rfl rfl ?_)
    exact E_ret1 rfl rfl fun w hm => hm.meetsB (S := ⟨fun (_ : Unit) => True, fun _ => .bool true, fun _ => [rowO 54 1 (.slice (some ⟨g, 0, none⟩) l.length cap) l.length ((l.set i y).map bitV)]⟩) () trivial [0] (by decide) (by simp [List.map_set]; rfl)
theorem beginGo_lt (E : List Bool) (F : List Nat) (behind : Nat) (hF : ∀ x ∈ F, x < 18446744073709551616) (hb : behind < 18446744073709551616) : ∀ (body : List Sym) (out : Nat), out < 18446744073709551616 → (∀ x ∈ body, x.1 = 1 → x.2.toNat < 64) → beginGo E F behind body out < 18446744073709551616
  | [], out, h, _ => or_lt h hb
  | x :: r, out, h, hx => by
    have hg : F.getD x.2.toNat 0 < 18446744073709551616 := by
      rw [List.getD_eq_getElem?_getD]
      cases e : F[x.2.toNat]? with
      | none => decide
      | some y => exact hF y (List.mem_of_getElem? e)
    unfold beginGo
    split
    · rename_i c; exact or_lt h (pow_lt64 (hx x (by simp) c))
    · split
      · exact beginGo_lt E F behind hF hb r _ (or_lt h hg) fun y hy => hx y (by simp [hy])
      · exact or_lt h hg
theorem beginGo_cons (E : List Bool) (F : List Nat) (behind : Nat) (x : Sym) (r : List Sym) (out : Nat) : beginGo E F behind (x :: r) out = if x.1 = 1 then out ||| 2 ^ x.2.toNat else if E.getD x.2.toNat false = true then beginGo E F behind r (out ||| F.getD x.2.toNat 0) else out ||| F.getD x.2.toNat 0 := rfl
theorem beginGo_nil (E : List Bool) (F : List Nat) (behind out : Nat) : beginGo E F behind [] out = out ||| behind := rfl
def facV (vE vF vL vR vM : Value) : Value := .agg #[vE, vF, vL, vR, vM]
attribute [local irreducible] Op.shift Go.bits in
set_option maxHeartbeats 2000000 in
theorem begin_calls (vE vF vL vR vM vb : Value) (E : List Bool) (F : List Nat) (body : List Sym) (behind : Nat) (w : World) (hE : Sl w vE E.length (E.map .bool)) (hF : Sl w vF F.length (F.map bitV)) (hs : Sl w vb body.length (body.flatMap symC)) (hEF : E.length = F.length)
    (hok : ∀ x ∈ body, (x.1 = 1 → 0 ≤ x.2 ∧ x.2 < 64) ∧ (x.1 ≠ 1 → 0 ≤ x.2 ∧ x.2 < F.length)) (h64 : ∀ x ∈ F, x < 18446744073709551616) (hb : behind < 18446744073709551616) :
    Calls Try.prog 68 #[facV vE vF vL vR vM, vb, bitV behind] w (Meets (ret (bitV (beginF E F body behind))) w) := by
  obtain ⟨bE, cE, rfl, e1, e2, e3⟩ := hE
  obtain ⟨bF, cF, rfl, f1, f2, f3⟩ := hF
  obtain ⟨bb, cb, rfl, h4, h5, h6⟩ := hs
  unfold maxLen at e2 f2 h5
  refine enter (args := [facV (.slice bE E.length cE) (.slice bF F.length cF) vL vR vM, .slice bb body.length cb, bitV behind]) (n := 44) Try.func68 rfl rfl rfl ?_
  refine T_seq (T_region (TL_box rfl rfl rfl fun g3 => ?_))
  repeat (first
    | refine qv rfl (qp rfl) rfl rfl ?_ | refine TL_nil ?_ | refine T_seq ?_ | refine T_region ?_ | refine qcT rfl ?_ | refine qcF rfl ?_ | refine T_skip ?_
    | refine T_exit ?_ | refine T_ret ?_ | refine T_block ?_ | refine E_then ?_ | refine E_thenX ?_ | refine E_thenR ?_ | refine E_blockN ?_
    | refine E_blockR ?_ | refine E_blockX ?_ | refine E_blockO rfl ?_ | refine qv rfl (qlen Und.eq rfl) rfl rfl ?_
    | refine qv rfl (qfld FldC.fld rfl rfl) rfl rfl ?_ | refine qv rfl (rr_not rfl rfl) rfl rfl ?_
    | refine qv rfl (rr_lss rfl rfl (qT (by omega))) rfl rfl ?_ | refine qv rfl (rr_lss rfl rfl (qF (by omega))) rfl rfl ?_
    | refine qv rfl (rr_eql rfl rfl (qT (by omega))) rfl rfl ?_ | refine qv rfl (rr_eql rfl rfl (qF (by omega))) rfl rfl ?_
    | refine qv rfl (rr_add64 rfl rfl (by omega) (by omega) rfl) rfl rfl ?_)
  unfold beginF
  refine T_loop (ι := Nat × Nat) (fun (k, out) => k ≤ body.length ∧ out < 18446744073709551616 ∧ beginGo E F behind body 0 = beginGo E F behind (body.drop k) out) (fun (k, out) => [(2, bitV behind), (3, .pointer (some ⟨g3, 0, none⟩)), (7, bitV out), (10, .slice bb body.length cb), (11, .int .i64 body.length), (12, .int .i64 (k : Int))]) (fun _ => [blkO g3 (facV (.slice bE E.length cE) (.slice bF F.length cF) vL vR vM).cells 63]) (fun (k, _) => body.length - k) (0, 0) ⟨Nat.zero_le _, by decide, rfl⟩ (by repeat' (first | exact True.intro | refine And.intro rfl ?_)) rfl ?_
  rintro ⟨k, out⟩ ⟨i1, i3, i2⟩
  dsimp only at i1 i3 i2 ⊢
  rw [i2]
  clear i2
  by_cases c6 : k < body.length
  · obtain ⟨b, off, rfl, hr⟩ := h6 (by omega)
    have hat := at_el (L := [blkO g3 (facV (.slice bE E.length cE) (.slice bF F.length cF) vL vR vM).cells 63]) SymS_len hr c6
    have hokx := hok body[k] (List.getElem_mem c6)
    have hd : beginGo E F behind (body.drop k) out = beginGo E F behind (body[k] :: body.drop (k + 1)) out := by
      rw [List.drop_eq_getElem_cons c6]
    rw [hd]
    clear hd h6 hok hr
    generalize body[k] = x at *
    obtain ⟨q, m⟩ := x
    dsimp only at *
    rw [beginGo_cons]
    dsimp only
    by_cases c1 : q = 1
    · rw [if_pos c1]
      obtain ⟨o1, o2⟩ := hokx.1 c1
      obtain ⟨mm, rfl⟩ : ∃ mm : Nat, m = mm := ⟨m.toNat, by omega⟩
      rw [Int.toNat_natCast]
      have hsh := fun w => shl1 (P := Try.prog) mm (by omega) w
      have hor := bits_orN i3 (pow_lt64 (m := mm) (by omega))
      repeat (first
        | refine qv rfl (qp rfl) rfl rfl ?_ | refine TL_nil ?_ | refine T_seq ?_ | refine T_region ?_ | refine qcT rfl ?_ | refine qcF rfl ?_ | refine T_skip ?_
        | refine T_exit ?_ | refine T_ret ?_ | refine T_block ?_ | refine E_then ?_ | refine E_thenX ?_ | refine E_thenR ?_ | refine E_blockN ?_
        | refine E_blockR ?_ | refine E_blockX ?_ | refine E_blockO rfl ?_ | refine qv rfl (rr_idxc Und.eq TyC.ty rfl rfl c6) rfl rfl ?_
        | refine qv rfl (rr_loadN TyC.ty rfl rfl hat) rfl rfl ?_ | refine qv rfl (qlen Und.eq rfl) rfl rfl ?_ | refine qv rfl (qfld FldC.fld rfl rfl) rfl rfl ?_
        | refine qv rfl (rr_not rfl rfl) rfl rfl ?_ | refine qv rfl (rr_lss rfl rfl (qT (by omega))) rfl rfl ?_
        | refine qv rfl (rr_lss rfl rfl (qF (by omega))) rfl rfl ?_ | refine qv rfl (rr_eql rfl rfl (qT (by omega))) rfl rfl ?_
        | refine qv rfl (rr_eql rfl rfl (qF (by omega))) rfl rfl ?_ | refine qv rfl (rr_add64 rfl rfl (by omega) (by omega) rfl) rfl rfl ?_)
      refine TL_new rfl fun g8 => ?_
      refine TL_storeB (i := 1) rfl rfl rfl rfl rfl rfl ?_
      repeat (first
        | refine qv rfl (qp rfl) rfl rfl ?_ | refine TL_nil ?_ | refine T_seq ?_ | refine T_region ?_ | refine qcT rfl ?_ | refine qcF rfl ?_ | refine T_skip ?_
        | refine T_exit ?_ | refine T_ret ?_ | refine T_block ?_ | refine E_then ?_ | refine E_thenX ?_ | refine E_thenR ?_ | refine E_blockN ?_
        | refine E_blockR ?_ | refine E_blockX ?_ | refine E_blockO rfl ?_ | refine qv rfl (rr_load1 TyC.ty rfl (at_blk (i := 1) rfl rfl)) rfl rfl ?_
        | refine qv rfl (rr_shl rfl rfl hsh) rfl rfl ?_ | refine qv rfl (rr_or rfl rfl hor) rfl rfl ?_ | refine qv rfl (qlen Und.eq rfl) rfl rfl ?_
        | refine qv rfl (qfld FldC.fld rfl rfl) rfl rfl ?_ | refine qv rfl (rr_not rfl rfl) rfl rfl ?_
        | refine qv rfl (rr_lss rfl rfl (qT (by omega))) rfl rfl ?_ | refine qv rfl (rr_lss rfl rfl (qF (by omega))) rfl rfl ?_
        | refine qv rfl (rr_eql rfl rfl (qT (by omega))) rfl rfl ?_ | refine qv rfl (rr_eql rfl rfl (qF (by omega))) rfl rfl ?_
        | refine qv rfl (rr_add64 rfl rfl (by omega) (by omega) rfl) rfl rfl ?_)
      exact E_ret1 rfl rfl fun w hm => hm.ret
    · rw [if_neg c1]
      obtain ⟨o1, o2⟩ := hokx.2 c1
      obtain ⟨mm, rfl⟩ : ∃ mm : Nat, m = mm := ⟨m.toNat, by omega⟩
      rw [Int.toNat_natCast]
      have hmm : mm < F.length := by omega
      have hmE : mm < E.length := by omega
      obtain ⟨b1, off1, rfl, hr1⟩ := e3 (by omega)
      obtain ⟨b2, off2, rfl, hr2⟩ := f3 (by omega)
      have hcE := bool_at hmE
      have hcF := bit_at hmm
      have hx64 : F.getD mm 0 < 18446744073709551616 := by
        have e : F.getD mm 0 = F[mm] := by rw [List.getD_eq_getElem?_getD, List.getElem?_eq_getElem hmm]; rfl
        rw [e]; exact h64 _ (List.getElem_mem hmm)
      have hor := bits_orN i3 hx64
      have hlt := or_lt i3 hx64
      generalize E.getD mm false = y at *
      generalize F.getD mm 0 = z at *
      generalize out ||| z = o2 at *
      cases y
      · rw [if_neg (by decide)]
        repeat (first
          | refine qv rfl (qp rfl) rfl rfl ?_ | refine TL_nil ?_ | refine T_seq ?_ | refine T_region ?_ | refine qcT rfl ?_ | refine qcF rfl ?_ | refine T_skip ?_
          | refine T_exit ?_ | refine T_ret ?_ | refine T_block ?_ | refine E_then ?_ | refine E_thenX ?_ | refine E_thenR ?_ | refine E_blockN ?_
          | refine E_blockR ?_ | refine E_blockX ?_ | refine E_blockO rfl ?_ | refine qv rfl (rr_idxc Und.eq TyC.ty rfl rfl c6) rfl rfl ?_
          | refine qv rfl (rr_loadN TyC.ty rfl rfl hat) rfl rfl ?_ | refine qv rfl (qlen Und.eq rfl) rfl rfl ?_ | refine qv rfl (qfld FldC.fld rfl rfl) rfl rfl ?_
          | refine qv rfl (rr_not rfl rfl) rfl rfl ?_ | refine qv rfl (rr_lss rfl rfl (qT (by omega))) rfl rfl ?_
          | refine qv rfl (rr_lss rfl rfl (qF (by omega))) rfl rfl ?_ | refine qv rfl (rr_eql rfl rfl (qT (by omega))) rfl rfl ?_
          | refine qv rfl (rr_eql rfl rfl (qF (by omega))) rfl rfl ?_ | refine qv rfl (rr_add64 rfl rfl (by omega) (by omega) rfl) rfl rfl ?_)
        refine TL_new rfl fun g8 => ?_
        refine TL_storeB (i := 1) rfl rfl rfl rfl rfl rfl ?_
        repeat (first
          | refine qv rfl (qp rfl) rfl rfl ?_ | refine TL_nil ?_ | refine T_seq ?_ | refine T_region ?_ | refine qcT rfl ?_ | refine qcF rfl ?_ | refine T_skip ?_
          | refine T_exit ?_ | refine T_ret ?_ | refine T_block ?_ | refine E_then ?_ | refine E_thenX ?_ | refine E_thenR ?_ | refine E_blockN ?_
          | refine E_blockR ?_ | refine E_blockX ?_ | refine E_blockO rfl ?_ | refine qv rfl (rr_load1 TyC.ty rfl (at_blk (i := 1) rfl rfl)) rfl rfl ?_
          | refine qv rfl (rr_load1 TyC.ty rfl (at_blk (i := 0) rfl rfl)) rfl rfl ?_ | refine qv rfl (rr_idx1 Und.eq TyC.ty rfl rfl hmm) rfl rfl ?_
          | refine qv rfl (rr_idx1 Und.eq TyC.ty rfl rfl hmE) rfl rfl ?_ | refine qv rfl (rr_load1 TyC.ty rfl (at_rd hr1 hcE)) rfl rfl ?_
          | refine qv rfl (rr_load1 TyC.ty rfl (at_rd hr2 hcF)) rfl rfl ?_ | refine qv rfl (rr_or rfl rfl hor) rfl rfl ?_
          | refine qv rfl (qlen Und.eq rfl) rfl rfl ?_ | refine qv rfl (qfld FldC.fld rfl rfl) rfl rfl ?_ | refine qv rfl (rr_not rfl rfl) rfl rfl ?_
          | refine qv rfl (rr_lss rfl rfl (qT (by omega))) rfl rfl ?_ | refine qv rfl (rr_lss rfl rfl (qF (by omega))) rfl rfl ?_
          | refine qv rfl (rr_eql rfl rfl (qT (by omega))) rfl rfl ?_ | refine qv rfl (rr_eql rfl rfl (qF (by omega))) rfl rfl ?_
          | refine qv rfl (rr_add64 rfl rfl (by omega) (by omega) rfl) rfl rfl ?_)
        exact E_ret1 rfl rfl fun w hm => hm.ret
      · rw [if_pos rfl]
        repeat (first
          | refine qv rfl (qp rfl) rfl rfl ?_ | refine TL_nil ?_ | refine T_seq ?_ | refine T_region ?_ | refine qcT rfl ?_ | refine qcF rfl ?_ | refine T_skip ?_
          | refine T_exit ?_ | refine T_ret ?_ | refine T_block ?_ | refine E_then ?_ | refine E_thenX ?_ | refine E_thenR ?_ | refine E_blockN ?_
          | refine E_blockR ?_ | refine E_blockX ?_ | refine E_blockO rfl ?_ | refine qv rfl (rr_idxc Und.eq TyC.ty rfl rfl c6) rfl rfl ?_
          | refine qv rfl (rr_loadN TyC.ty rfl rfl hat) rfl rfl ?_ | refine qv rfl (qlen Und.eq rfl) rfl rfl ?_ | refine qv rfl (qfld FldC.fld rfl rfl) rfl rfl ?_
          | refine qv rfl (rr_not rfl rfl) rfl rfl ?_ | refine qv rfl (rr_lss rfl rfl (qT (by omega))) rfl rfl ?_
          | refine qv rfl (rr_lss rfl rfl (qF (by omega))) rfl rfl ?_ | refine qv rfl (rr_eql rfl rfl (qT (by omega))) rfl rfl ?_
          | refine qv rfl (rr_eql rfl rfl (qF (by omega))) rfl rfl ?_ | refine qv rfl (rr_add64 rfl rfl (by omega) (by omega) rfl) rfl rfl ?_)
        refine TL_new rfl fun g8 => ?_
        refine TL_storeB (i := 1) rfl rfl rfl rfl rfl rfl ?_
        repeat (first
          | refine qv rfl (qp rfl) rfl rfl ?_ | refine TL_nil ?_ | refine T_seq ?_ | refine T_region ?_ | refine qcT rfl ?_ | refine qcF rfl ?_ | refine T_skip ?_
          | refine T_exit ?_ | refine T_ret ?_ | refine T_block ?_ | refine E_then ?_ | refine E_thenX ?_ | refine E_thenR ?_ | refine E_blockN ?_
          | refine E_blockR ?_ | refine E_blockX ?_ | refine E_blockO rfl ?_ | refine qv rfl (rr_load1 TyC.ty rfl (at_blk (i := 1) rfl rfl)) rfl rfl ?_
          | refine qv rfl (rr_load1 TyC.ty rfl (at_blk (i := 0) rfl rfl)) rfl rfl ?_ | refine qv rfl (rr_idx1 Und.eq TyC.ty rfl rfl hmm) rfl rfl ?_
          | refine qv rfl (rr_idx1 Und.eq TyC.ty rfl rfl hmE) rfl rfl ?_ | refine qv rfl (rr_load1 TyC.ty rfl (at_rd hr1 hcE)) rfl rfl ?_
          | refine qv rfl (rr_load1 TyC.ty rfl (at_rd hr2 hcF)) rfl rfl ?_ | refine qv rfl (rr_or rfl rfl hor) rfl rfl ?_
          | refine qv rfl (qlen Und.eq rfl) rfl rfl ?_ | refine qv rfl (qfld FldC.fld rfl rfl) rfl rfl ?_ | refine qv rfl (rr_not rfl rfl) rfl rfl ?_
          | refine qv rfl (rr_lss rfl rfl (qT (by omega))) rfl rfl ?_ | refine qv rfl (rr_lss rfl rfl (qF (by omega))) rfl rfl ?_
          | refine qv rfl (rr_eql rfl rfl (qT (by omega))) rfl rfl ?_ | refine qv rfl (rr_eql rfl rfl (qF (by omega))) rfl rfl ?_
          | refine qv rfl (rr_add64 rfl rfl (by omega) (by omega) rfl) rfl rfl ?_)
        refine E_pick [0] (by decide) rfl ?_
        exact E_round (k + 1, o2) ⟨by omega, hlt, rfl⟩ (by show body.length - (k + 1) < body.length - k; omega) (by repeat' (first | exact True.intro | refine And.intro rfl ?_)) rfl
  · rw [List.drop_of_length_le (by omega)]
    have hor := bits_orN i3 hb
    rw [beginGo_nil]
    repeat (first
      | refine qv rfl (qp rfl) rfl rfl ?_ | refine TL_nil ?_ | refine T_seq ?_ | refine T_region ?_ | refine qcT rfl ?_ | refine qcF rfl ?_ | refine T_skip ?_
      | refine T_exit ?_ | refine T_ret ?_ | refine T_block ?_ | refine E_then ?_ | refine E_thenX ?_ | refine E_thenR ?_ | refine E_blockN ?_
      | refine E_blockR ?_ | refine E_blockX ?_ | refine E_blockO rfl ?_ | refine qv rfl (rr_or rfl rfl hor) rfl rfl ?_
      | refine qv rfl (qlen Und.eq rfl) rfl rfl ?_ | refine qv rfl (qfld FldC.fld rfl rfl) rfl rfl ?_ | refine qv rfl (rr_not rfl rfl) rfl rfl ?_
      | refine qv rfl (rr_lss rfl rfl (qT (by omega))) rfl rfl ?_ | refine qv rfl (rr_lss rfl rfl (qF (by omega))) rfl rfl ?_
      | refine qv rfl (rr_eql rfl rfl (qT (by omega))) rfl rfl ?_ | refine qv rfl (rr_eql rfl rfl (qF (by omega))) rfl rfl ?_
      | refine qv rfl (rr_add64 rfl rfl (by omega) (by omega) rfl) rfl rfl ?_)
    exact E_ret1 rfl rfl fun w hm => hm.ret
end Go.Proofs.Ytnicebdkejkieaa.eng
