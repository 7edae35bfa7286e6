/- The walk of FrameTurned. -/
import Derived.Test.YtbgamboahifnoaaFrameE
import Derived.Test.YtbgamboahifnoaaFrameT
import Derived.Test.YtbgamboahifnoaaRestE
import Derived.Test.YtbgamboahifnoaaFrameO
import Derived.Laws.BitsAllLaws
namespace Go.Proofs.Ytbgamboahifnoaa.eng
open Go.RowKit kit mix sumL frameL
theorem rr_stringWr {P : Program} {n : Nat} {W : World} {fr : Fr} {L : List Own} {dst : Option Tmp} {ty : TypeId} {pos : String} {after : Array Edge} {guard : Option (Nat × Bool)} {t u e : TypeId} {x : Operand} {i g m cap : Nat} {xs : List Value} {l : List UInt8} (ht : P.underlying t = some (.slice e)) (he : P.underlying e = some (.int .u8)) (hu : P.underlying u = some .string) (hx : ev fr x = some (.slice (some ⟨g, 0, none⟩) m cap)) (hi : L[i]? = some (wrO g xs)) (hxs : xs = l.map u8v) (hm : m = l.length) : RR P n W ⟨dst, .convert t u x, ty, pos, after, guard⟩ fr L (str l) := .mk fun a w hr hmm => by
  subst hm hxs
  have hx' := hr.ev hx
  have hh : g < w.heap.size ∧ Wr w g 0 (l.map u8v) := hmm.get hi
  have e' : (convert t u (.slice (some ⟨g, 0, none⟩) l.length cap)).run P w = .ok (str l) w := by
    cases l with
    | nil => simp [convert, run_underlying ht, run_underlying hu, run_underlying he, Conv.bytesToString, str, loadCells, loadCellsFrom]; rfl
    | cons b l => exact conv_string ht he hu rfl hh.2.rd
  simp only [execOp, hx', Sem.run_bind, e', Result.andThen_ok, Sem.run_pure]
/-- what Feed hands back, laid out -/
def feedX (b : List UInt8) (e : Int) (m : Nat) (xs : List Value) (e2 : Int) : Spec Value := ⟨fun _ => True, fun v => .tuple #[.agg #[str b, .int .i64 e], v, .int .i64 e2], fun v => [rowO 78 3 v m xs]⟩
theorem xor_u8 (a b : UInt8) : bits .xor .u8 (a.toNat : Int) (b.toNat : Int) = (((a ^^^ b).toNat : Nat) : Int) := by
  rw [u8_xor_nat _ _ a.toNat_lt b.toNat_lt, UInt8.toNat_xor]
theorem eq_in (a b : List UInt8) (x y : Int) (w : World) : (Op.equalIn 10000 71 (.agg #[str a, .int .i64 x]) (.agg #[str b, .int .i64 y])).run Try.prog w = .ok (decide (a = b) && (x == y)) w := by
  unfold str
  go_simp
  by_cases e1 : a = b <;> by_cases e2 : x = y <;> simp [e1, e2]
end Go.Proofs.Ytbgamboahifnoaa.eng
namespace Go.Proofs.Ytbgamboahifnoaa.frameTurned
open Go.RowKit kit mix sumL frameL eng
attribute [local irreducible] Op.shift Go.bits in
set_option maxHeartbeats 4000000 in
theorem walkF (f : Fm) (hf : -9223372036854775808 ≤ f.1 ∧ f.1 ≤ 9223372036854775807) (at_ : Int) (ha : -9223372036854775808 ≤ at_ ∧ at_ ≤ 9223372036854775807) (y : UInt8) (w : World) : Calls Try.prog 14 #[frV f, .int .i64 at_, .int .u8 y.toNat] w (Meets (ret (.bool true)) w) := by
  obtain ⟨k, q, b⟩ := f
  dsimp only at hf
  refine enter (args := [.agg #[.int .i64 k, .int .i64 q, str b], .int .i64 at_, .int .u8 y.toNat]) (n := 79) Try.func14 rfl rfl rfl ?_
  refine T_seq (T_region (TL_box rfl rfl rfl fun g => ?_))
  have hwr := fun w => frWrite_calls (k, q, b) w
  unfold writeFr at hwr
  by_cases c1 : checkFr (k, q, b) = 0
  · rw [if_neg (by simpa using c1)] at hwr
    dsimp only at hwr
    have hl : (wrL (k, q, b)).length = b.length + 8 := wrL_length _
    have hok := checkFr_ok c1
    dsimp only at hok
    have htu := @turned (k, q, b) c1
    generalize hS : wrL (k, q, b) = S at *
    repeat (first
      | refine TL_val (rr_move rfl) rfl rfl rfl ?_
      | refine TL_val (rr_assign rfl) rfl rfl rfl ?_
      | refine TL_nil ?_
      | refine T_seq ?_
      | refine T_region ?_
      | refine T_condT rfl ?_
      | refine T_condF rfl ?_
      | refine T_skip ?_
      | refine T_ret ?_
      | refine E_then ?_
      | refine E_thenR ?_
      | refine TL_val (rr_loadB (i := 0) TyC.ty rfl rfl rfl) rfl rfl rfl ?_
      | refine TL_val (rr_extract rfl rfl) rfl rfl rfl ?_
      | refine TL_val (rr_pickT rfl rfl) rfl rfl rfl ?_
      | refine TL_val (rr_pickF rfl rfl) rfl rfl rfl ?_
      | refine TL_val (rr_strlen Und.eq rfl) rfl rfl rfl ?_
      | refine TL_val (rr_len Und.eq rfl) rfl rfl rfl ?_
      | refine TL_val (rr_field FldC.fld rfl rfl) rfl rfl rfl ?_
      | refine TL_val (rr_eql rfl rfl (decide_eq_true (by omega))) rfl rfl rfl ?_
      | refine TL_val (rr_eql rfl rfl (decide_eq_false (by omega))) rfl rfl rfl ?_
      | refine TL_val (rr_neq rfl rfl (decide_eq_true (by omega))) rfl rfl rfl ?_
      | refine TL_val (rr_neq rfl rfl (decide_eq_false (by omega))) rfl rfl rfl ?_
      | refine TL_val (rr_add64 rfl rfl (by omega) (by omega) rfl) rfl rfl rfl ?_
      | refine TL_val (rr_sub64 rfl rfl (by omega) (by omega) rfl) rfl rfl rfl ?_
      | refine TL_skip rfl rfl rfl rfl rfl rfl ?_
      | refine TL_gval (rr_loadB (i := 0) TyC.ty rfl rfl rfl) rfl rfl rfl rfl rfl ?_
      | refine TL_gval (rr_move rfl) rfl rfl rfl rfl rfl ?_
      | refine TL_gval (rr_eql rfl rfl (decide_eq_true (by omega))) rfl rfl rfl rfl rfl ?_
      | refine TL_gval (rr_eql rfl rfl (decide_eq_false (by omega))) rfl rfl rfl rfl rfl ?_)
    refine TL_call (he1 EntersC.en rfl rfl) (fun w hm => hwr _) rfl rfl rfl ?_
    intro _ _
    clear hwr
    have l0 := y.toNat_lt
    by_cases c2 : y.toNat = 0
    · repeat (first
        | refine TL_val (rr_move rfl) rfl rfl rfl ?_
        | refine TL_val (rr_assign rfl) rfl rfl rfl ?_
        | refine TL_nil ?_
        | refine T_seq ?_
        | refine T_region ?_
        | refine T_condT rfl ?_
        | refine T_condF rfl ?_
        | refine T_skip ?_
        | refine T_ret ?_
        | refine E_then ?_
        | refine E_thenR ?_
        | refine TL_val (rr_load1 TyC.ty rfl (at_blk (i := 0) rfl rfl)) rfl rfl rfl ?_
        | refine TL_val (rr_extract rfl rfl) rfl rfl rfl ?_
        | refine TL_val (rr_pickT rfl rfl) rfl rfl rfl ?_
        | refine TL_val (rr_pickF rfl rfl) rfl rfl rfl ?_
        | refine TL_val (rr_strlen Und.eq rfl) rfl rfl rfl ?_
        | refine TL_val (rr_len Und.eq rfl) rfl rfl rfl ?_
        | refine TL_val (rr_field FldC.fld rfl rfl) rfl rfl rfl ?_
        | refine TL_val (rr_eql rfl rfl (decide_eq_true (by omega))) rfl rfl rfl ?_
        | refine TL_val (rr_eql rfl rfl (decide_eq_false (by omega))) rfl rfl rfl ?_
        | refine TL_val (rr_neq rfl rfl (decide_eq_true (by omega))) rfl rfl rfl ?_
        | refine TL_val (rr_neq rfl rfl (decide_eq_false (by omega))) rfl rfl rfl ?_
        | refine TL_val (rr_add64 rfl rfl (by omega) (by omega) rfl) rfl rfl rfl ?_
        | refine TL_val (rr_sub64 rfl rfl (by omega) (by omega) rfl) rfl rfl rfl ?_
        | refine TL_skip rfl rfl rfl rfl rfl rfl ?_
        | refine TL_gval (rr_load1 TyC.ty rfl (at_blk (i := 0) rfl rfl)) rfl rfl rfl rfl rfl ?_
        | refine TL_gval (rr_move rfl) rfl rfl rfl rfl rfl ?_
        | refine TL_gval (rr_eql rfl rfl (decide_eq_true (by omega))) rfl rfl rfl rfl rfl ?_
        | refine TL_gval (rr_eql rfl rfl (decide_eq_false (by omega))) rfl rfl rfl rfl rfl ?_)
      exact E_ret1 rfl rfl fun w hm => hm.ret
    · have hm0 := Int.emod_nonneg at_ (b := ((S.length : Int) - 4)) (by omega)
      have hm1 := Int.emod_lt_of_pos at_ (b := ((S.length : Int) - 4)) (by omega)
      obtain ⟨p, hp⟩ : ∃ p : Nat, 4 + at_ % ((S.length : Int) - 4) = p := ⟨(4 + at_ % ((S.length : Int) - 4)).toNat, by omega⟩
      have hp4 : 4 ≤ p := by omega
      have hpl : p < S.length := by omega
      have hrest := fun w => restE at_ ((S.length : Int) - 4) w ha.1 ha.2 (by omega) (by omega)
      have hx : S[p] ≠ S[p] ^^^ y := fun e => c2 (by
        have h := congrArg (fun z => S[p] ^^^ z) e
        rw [UInt8.xor_self, ← UInt8.xor_assoc, UInt8.xor_self, UInt8.zero_xor] at h
        rw [← h]; rfl)
      have hfr := htu hp4 hpl hx
      have hfeed := fun w => feed_calls ([], 0) (S.set p (S[p] ^^^ y)) w
      have hfe : feedF ([], 0) (S.set p (S[p] ^^^ y)) = (([], 5), [], 5) := by
        rw [feedF_eq, if_neg (by simp), List.nil_append, feedL_err (by rw [hfr]; decide), hfr]
      rw [hfe] at hfeed
      replace hfeed : ∀ w, ([] : List UInt8).length + (S.set p (S[p] ^^^ y)).length ≤ 1000000000000 → Calls Try.prog 33 #[.agg #[str [], .int .i64 0], str (S.set p (S[p] ^^^ y))] w (Meets (feedX [] 5 0 [] 5) w) := hfeed
      generalize at_ % ((S.length : Int) - 4) = z at *
      clear hfr htu hfe
      repeat (first
        | refine TL_val (rr_move rfl) rfl rfl rfl ?_
        | refine TL_val (rr_assign rfl) rfl rfl rfl ?_
        | refine TL_nil ?_
        | refine T_seq ?_
        | refine T_region ?_
        | refine T_condT rfl ?_
        | refine T_condF rfl ?_
        | refine T_skip ?_
        | refine T_ret ?_
        | refine E_then ?_
        | refine E_thenR ?_
        | refine TL_val (rr_load1 TyC.ty rfl (at_blk (i := 0) rfl rfl)) rfl rfl rfl ?_
        | refine TL_val (rr_extract rfl rfl) rfl rfl rfl ?_
        | refine TL_val (rr_pickT rfl rfl) rfl rfl rfl ?_
        | refine TL_val (rr_pickF rfl rfl) rfl rfl rfl ?_
        | refine TL_val (rr_strlen Und.eq rfl) rfl rfl rfl ?_
        | refine TL_val (rr_len Und.eq rfl) rfl rfl rfl ?_
        | refine TL_val (rr_field FldC.fld rfl rfl) rfl rfl rfl ?_
        | refine TL_val (rr_eql rfl rfl (decide_eq_true (by omega))) rfl rfl rfl ?_
        | refine TL_val (rr_eql rfl rfl (decide_eq_false (by omega))) rfl rfl rfl ?_
        | refine TL_val (rr_neq rfl rfl (decide_eq_true (by omega))) rfl rfl rfl ?_
        | refine TL_val (rr_neq rfl rfl (decide_eq_false (by omega))) rfl rfl rfl ?_
        | refine TL_val (rr_add64 rfl rfl (by omega) (by omega) rfl) rfl rfl rfl ?_
        | refine TL_val (rr_sub64 rfl rfl (by omega) (by omega) rfl) rfl rfl rfl ?_
        | refine TL_skip rfl rfl rfl rfl rfl rfl ?_
        | refine TL_gval (rr_load1 TyC.ty rfl (at_blk (i := 0) rfl rfl)) rfl rfl rfl rfl rfl ?_
        | refine TL_gval (rr_move rfl) rfl rfl rfl rfl rfl ?_
        | refine TL_gval (rr_eql rfl rfl (decide_eq_true (by omega))) rfl rfl rfl rfl rfl ?_
        | refine TL_gval (rr_eql rfl rfl (decide_eq_false (by omega))) rfl rfl rfl rfl rfl ?_)
      refine TL_bytes Und.eq Und.eq Und.eq rfl rfl fun g2 cap hcap => ?_
      repeat (first
        | refine TL_val (rr_move rfl) rfl rfl rfl ?_
        | refine TL_val (rr_assign rfl) rfl rfl rfl ?_
        | refine TL_nil ?_
        | refine T_seq ?_
        | refine T_region ?_
        | refine T_condT rfl ?_
        | refine T_condF rfl ?_
        | refine T_skip ?_
        | refine T_ret ?_
        | refine E_then ?_
        | refine E_thenR ?_
        | refine TL_val (rr_extract rfl rfl) rfl rfl rfl ?_
        | refine TL_val (rr_pickT rfl rfl) rfl rfl rfl ?_
        | refine TL_val (rr_pickF rfl rfl) rfl rfl rfl ?_
        | refine TL_val (rr_strlen Und.eq rfl) rfl rfl rfl ?_
        | refine TL_val (rr_len Und.eq rfl) rfl rfl rfl ?_
        | refine TL_val (rr_field FldC.fld rfl rfl) rfl rfl rfl ?_
        | refine TL_val (rr_eql rfl rfl (decide_eq_true (by omega))) rfl rfl rfl ?_
        | refine TL_val (rr_eql rfl rfl (decide_eq_false (by omega))) rfl rfl rfl ?_
        | refine TL_val (rr_neq rfl rfl (decide_eq_true (by omega))) rfl rfl rfl ?_
        | refine TL_val (rr_neq rfl rfl (decide_eq_false (by omega))) rfl rfl rfl ?_
        | refine TL_val (rr_add64 rfl rfl (by omega) (by omega) rfl) rfl rfl rfl ?_
        | refine TL_val (rr_sub64 rfl rfl (by omega) (by omega) rfl) rfl rfl rfl ?_
        | refine TL_skip rfl rfl rfl rfl rfl rfl ?_
        | refine TL_gval (rr_move rfl) rfl rfl rfl rfl rfl ?_
        | refine TL_gval (rr_eql rfl rfl (decide_eq_true (by omega))) rfl rfl rfl rfl rfl ?_
        | refine TL_gval (rr_eql rfl rfl (decide_eq_false (by omega))) rfl rfl rfl rfl rfl ?_)
      refine TL_call (he2 EntersC.en rfl rfl rfl) (fun w hm => hrest _) rfl rfl rfl ?_
      intro _ _
      repeat (first
        | refine TL_val (rr_move rfl) rfl rfl rfl ?_
        | refine TL_val (rr_assign rfl) rfl rfl rfl ?_
        | refine TL_nil ?_
        | refine T_seq ?_
        | refine T_region ?_
        | refine T_condT rfl ?_
        | refine T_condF rfl ?_
        | refine T_skip ?_
        | refine T_ret ?_
        | refine E_then ?_
        | refine E_thenR ?_
        | refine TL_val (rr_add64 (r := (p : Int)) rfl rfl (by omega) (by omega) (by omega)) rfl rfl rfl ?_
        | refine TL_val (rr_idx1 Und.eq TyC.ty rfl rfl hpl) rfl rfl rfl ?_
        | refine TL_val (rr_load1 TyC.ty rfl (at_wr (i := 1) rfl (show (S.map u8v)[0 + p]? = some (u8v S[p]) by simp [hpl]))) rfl rfl rfl ?_
        | refine TL_val (rr_xor rfl rfl (xor_u8 S[p] y)) rfl rfl rfl ?_
        | refine TL_val (rr_extract rfl rfl) rfl rfl rfl ?_
        | refine TL_val (rr_pickT rfl rfl) rfl rfl rfl ?_
        | refine TL_val (rr_pickF rfl rfl) rfl rfl rfl ?_
        | refine TL_val (rr_strlen Und.eq rfl) rfl rfl rfl ?_
        | refine TL_val (rr_len Und.eq rfl) rfl rfl rfl ?_
        | refine TL_val (rr_field FldC.fld rfl rfl) rfl rfl rfl ?_
        | refine TL_val (rr_eql rfl rfl (decide_eq_true (by omega))) rfl rfl rfl ?_
        | refine TL_val (rr_eql rfl rfl (decide_eq_false (by omega))) rfl rfl rfl ?_
        | refine TL_val (rr_neq rfl rfl (decide_eq_true (by omega))) rfl rfl rfl ?_
        | refine TL_val (rr_neq rfl rfl (decide_eq_false (by omega))) rfl rfl rfl ?_
        | refine TL_val (rr_add64 rfl rfl (by omega) (by omega) rfl) rfl rfl rfl ?_
        | refine TL_val (rr_sub64 rfl rfl (by omega) (by omega) rfl) rfl rfl rfl ?_
        | refine TL_skip rfl rfl rfl rfl rfl rfl ?_
        | refine TL_gval (rr_load1 TyC.ty rfl (at_wr (i := 1) rfl (show (S.map u8v)[0 + p]? = some (u8v S[p]) by simp [hpl]))) rfl rfl rfl rfl rfl ?_
        | refine TL_gval (rr_move rfl) rfl rfl rfl rfl rfl ?_
        | refine TL_gval (rr_eql rfl rfl (decide_eq_true (by omega))) rfl rfl rfl rfl rfl ?_
        | refine TL_gval (rr_eql rfl rfl (decide_eq_false (by omega))) rfl rfl rfl rfl rfl ?_)
      refine TL_storeWr (i := 1) TyC.ty rfl rfl rfl rfl rfl rfl (by simp; omega) ?_
      clear hrest hm0 hm1
      repeat (first
        | refine TL_val (rr_move rfl) rfl rfl rfl ?_
        | refine TL_val (rr_assign rfl) rfl rfl rfl ?_
        | refine TL_nil ?_
        | refine T_seq ?_
        | refine T_region ?_
        | refine T_condT rfl ?_
        | refine T_condF rfl ?_
        | refine T_skip ?_
        | refine T_ret ?_
        | refine E_then ?_
        | refine E_thenR ?_
        | refine TL_val (rr_build rfl build_in) rfl rfl rfl ?_
        | refine TL_val (rr_stringWr (i := 1) (l := S.set p (S[p] ^^^ y)) Und.eq Und.eq Und.eq rfl rfl (by simp [List.map_set, u8v]) (by simp)) rfl rfl rfl ?_
        | refine TL_val (rr_extract rfl rfl) rfl rfl rfl ?_
        | refine TL_val (rr_pickT rfl rfl) rfl rfl rfl ?_
        | refine TL_val (rr_pickF rfl rfl) rfl rfl rfl ?_
        | refine TL_val (rr_strlen Und.eq rfl) rfl rfl rfl ?_
        | refine TL_val (rr_len Und.eq rfl) rfl rfl rfl ?_
        | refine TL_val (rr_field FldC.fld rfl rfl) rfl rfl rfl ?_
        | refine TL_val (rr_eql rfl rfl (decide_eq_true (by omega))) rfl rfl rfl ?_
        | refine TL_val (rr_eql rfl rfl (decide_eq_false (by omega))) rfl rfl rfl ?_
        | refine TL_val (rr_neq rfl rfl (decide_eq_true (by omega))) rfl rfl rfl ?_
        | refine TL_val (rr_neq rfl rfl (decide_eq_false (by omega))) rfl rfl rfl ?_
        | refine TL_val (rr_add64 rfl rfl (by omega) (by omega) rfl) rfl rfl rfl ?_
        | refine TL_val (rr_sub64 rfl rfl (by omega) (by omega) rfl) rfl rfl rfl ?_
        | refine TL_skip rfl rfl rfl rfl rfl rfl ?_
        | refine TL_gval (rr_build rfl build_in) rfl rfl rfl rfl rfl ?_
        | refine TL_gval (rr_move rfl) rfl rfl rfl rfl rfl ?_
        | refine TL_gval (rr_eql rfl rfl (decide_eq_true (by omega))) rfl rfl rfl rfl rfl ?_
        | refine TL_gval (rr_eql rfl rfl (decide_eq_false (by omega))) rfl rfl rfl rfl rfl ?_)
      refine TL_call (he2 EntersC.en rfl rfl rfl) (fun w hm => hfeed _ (by simp; omega)) rfl rfl rfl ?_
      rintro v' _
      clear hfeed
      repeat (first
        | refine TL_val (rr_move rfl) rfl rfl rfl ?_
        | refine TL_val (rr_assign rfl) rfl rfl rfl ?_
        | refine TL_nil ?_
        | refine T_seq ?_
        | refine T_region ?_
        | refine T_condT rfl ?_
        | refine T_condF rfl ?_
        | refine T_skip ?_
        | refine T_ret ?_
        | refine E_then ?_
        | refine E_thenR ?_
        | refine TL_val (rr_extract rfl rfl) rfl rfl rfl ?_
        | refine TL_val (rr_pickT rfl rfl) rfl rfl rfl ?_
        | refine TL_val (rr_pickF rfl rfl) rfl rfl rfl ?_
        | refine TL_val (rr_strlen Und.eq rfl) rfl rfl rfl ?_
        | refine TL_val (rr_len Und.eq rfl) rfl rfl rfl ?_
        | refine TL_val (rr_field FldC.fld rfl rfl) rfl rfl rfl ?_
        | refine TL_val (rr_eql rfl rfl (decide_eq_true (by omega))) rfl rfl rfl ?_
        | refine TL_val (rr_eql rfl rfl (decide_eq_false (by omega))) rfl rfl rfl ?_
        | refine TL_val (rr_neq rfl rfl (decide_eq_true (by omega))) rfl rfl rfl ?_
        | refine TL_val (rr_neq rfl rfl (decide_eq_false (by omega))) rfl rfl rfl ?_
        | refine TL_val (rr_add64 rfl rfl (by omega) (by omega) rfl) rfl rfl rfl ?_
        | refine TL_val (rr_sub64 rfl rfl (by omega) (by omega) rfl) rfl rfl rfl ?_
        | refine TL_skip rfl rfl rfl rfl rfl rfl ?_
        | refine TL_gval (rr_move rfl) rfl rfl rfl rfl rfl ?_
        | refine TL_gval (rr_eql rfl rfl (decide_eq_true (by omega))) rfl rfl rfl rfl rfl ?_
        | refine TL_gval (rr_eql rfl rfl (decide_eq_false (by omega))) rfl rfl rfl rfl rfl ?_)
      refine TL_new rfl fun g3 => ?_
      refine TL_storeB (i := 3) rfl rfl rfl rfl rfl rfl ?_
      repeat (first
        | refine TL_val (rr_move rfl) rfl rfl rfl ?_
        | refine TL_val (rr_assign rfl) rfl rfl rfl ?_
        | refine TL_nil ?_
        | refine T_seq ?_
        | refine T_region ?_
        | refine T_condT rfl ?_
        | refine T_condF rfl ?_
        | refine T_skip ?_
        | refine T_ret ?_
        | refine E_then ?_
        | refine E_thenR ?_
        | refine TL_val (rr_rowlen (i := 2) Und.eq rfl rfl) rfl rfl rfl ?_
        | refine TL_val (rr_loadB (i := 3) TyC.ty rfl rfl rfl) rfl rfl rfl ?_
        | refine TL_val (rr_build rfl (build_inE 5)) rfl rfl rfl ?_
        | refine TL_val (rr_extract rfl rfl) rfl rfl rfl ?_
        | refine TL_val (rr_pickT rfl rfl) rfl rfl rfl ?_
        | refine TL_val (rr_pickF rfl rfl) rfl rfl rfl ?_
        | refine TL_val (rr_strlen Und.eq rfl) rfl rfl rfl ?_
        | refine TL_val (rr_len Und.eq rfl) rfl rfl rfl ?_
        | refine TL_val (rr_field FldC.fld rfl rfl) rfl rfl rfl ?_
        | refine TL_val (rr_eql rfl rfl (decide_eq_true (by omega))) rfl rfl rfl ?_
        | refine TL_val (rr_eql rfl rfl (decide_eq_false (by omega))) rfl rfl rfl ?_
        | refine TL_val (rr_neq rfl rfl (decide_eq_true (by omega))) rfl rfl rfl ?_
        | refine TL_val (rr_neq rfl rfl (decide_eq_false (by omega))) rfl rfl rfl ?_
        | refine TL_val (rr_add64 rfl rfl (by omega) (by omega) rfl) rfl rfl rfl ?_
        | refine TL_val (rr_sub64 rfl rfl (by omega) (by omega) rfl) rfl rfl rfl ?_
        | refine TL_skip rfl rfl rfl rfl rfl rfl ?_
        | refine TL_gval (rr_loadB (i := 3) TyC.ty rfl rfl rfl) rfl rfl rfl rfl rfl ?_
        | refine TL_gval (rr_build rfl (build_inE 5)) rfl rfl rfl rfl rfl ?_
        | refine TL_gval (rr_aggeq (b := true) rfl rfl (by kernel_rfl) (fun w => eq_in [] [] 5 5 w)) rfl rfl rfl rfl rfl ?_
        | refine TL_gval (rr_move rfl) rfl rfl rfl rfl rfl ?_
        | refine TL_gval (rr_eql rfl rfl (decide_eq_true (by omega))) rfl rfl rfl rfl rfl ?_
        | refine TL_gval (rr_eql rfl rfl (decide_eq_false (by omega))) rfl rfl rfl rfl rfl ?_)
      exact E_ret1 rfl rfl fun w hm => hm.ret
  · rw [if_pos c1] at hwr
    dsimp only at hwr
    generalize hC : checkFr (k, q, b) = C at *
    have hck := fun w => frCheck_calls (k, q, b) w
    rw [hC] at hck
    repeat (first
      | refine TL_val (rr_move rfl) rfl rfl rfl ?_
      | refine TL_val (rr_assign rfl) rfl rfl rfl ?_
      | refine TL_nil ?_
      | refine T_seq ?_
      | refine T_region ?_
      | refine T_condT rfl ?_
      | refine T_condF rfl ?_
      | refine T_skip ?_
      | refine T_ret ?_
      | refine E_then ?_
      | refine E_thenR ?_
      | refine TL_val (rr_loadB (i := 0) TyC.ty rfl rfl rfl) rfl rfl rfl ?_
      | refine TL_val (rr_extract rfl rfl) rfl rfl rfl ?_
      | refine TL_val (rr_pickT rfl rfl) rfl rfl rfl ?_
      | refine TL_val (rr_pickF rfl rfl) rfl rfl rfl ?_
      | refine TL_val (rr_strlen Und.eq rfl) rfl rfl rfl ?_
      | refine TL_val (rr_len Und.eq rfl) rfl rfl rfl ?_
      | refine TL_val (rr_field FldC.fld rfl rfl) rfl rfl rfl ?_
      | refine TL_val (rr_eql rfl rfl (decide_eq_true (by omega))) rfl rfl rfl ?_
      | refine TL_val (rr_eql rfl rfl (decide_eq_false (by omega))) rfl rfl rfl ?_
      | refine TL_val (rr_neq rfl rfl (decide_eq_true (by omega))) rfl rfl rfl ?_
      | refine TL_val (rr_neq rfl rfl (decide_eq_false (by omega))) rfl rfl rfl ?_
      | refine TL_val (rr_add64 rfl rfl (by omega) (by omega) rfl) rfl rfl rfl ?_
      | refine TL_val (rr_sub64 rfl rfl (by omega) (by omega) rfl) rfl rfl rfl ?_
      | refine TL_skip rfl rfl rfl rfl rfl rfl ?_
      | refine TL_gval (rr_loadB (i := 0) TyC.ty rfl rfl rfl) rfl rfl rfl rfl rfl ?_
      | refine TL_gval (rr_move rfl) rfl rfl rfl rfl rfl ?_
      | refine TL_gval (rr_eql rfl rfl (decide_eq_true (by omega))) rfl rfl rfl rfl rfl ?_
      | refine TL_gval (rr_eql rfl rfl (decide_eq_false (by omega))) rfl rfl rfl rfl rfl ?_)
    refine TL_call (he1 EntersC.en rfl rfl) (fun w hm => hwr _) rfl rfl rfl ?_
    intro _ _
    repeat (first
      | refine TL_val (rr_move rfl) rfl rfl rfl ?_
      | refine TL_val (rr_assign rfl) rfl rfl rfl ?_
      | refine TL_nil ?_
      | refine T_seq ?_
      | refine T_region ?_
      | refine T_condT rfl ?_
      | refine T_condF rfl ?_
      | refine T_skip ?_
      | refine T_ret ?_
      | refine E_then ?_
      | refine E_thenR ?_
      | refine TL_val (rr_loadB (i := 0) TyC.ty rfl rfl rfl) rfl rfl rfl ?_
      | refine TL_val (rr_extract rfl rfl) rfl rfl rfl ?_
      | refine TL_val (rr_pickT rfl rfl) rfl rfl rfl ?_
      | refine TL_val (rr_pickF rfl rfl) rfl rfl rfl ?_
      | refine TL_val (rr_strlen Und.eq rfl) rfl rfl rfl ?_
      | refine TL_val (rr_len Und.eq rfl) rfl rfl rfl ?_
      | refine TL_val (rr_field FldC.fld rfl rfl) rfl rfl rfl ?_
      | refine TL_val (rr_eql rfl rfl (decide_eq_true (by omega))) rfl rfl rfl ?_
      | refine TL_val (rr_eql rfl rfl (decide_eq_false (by omega))) rfl rfl rfl ?_
      | refine TL_val (rr_neq rfl rfl (decide_eq_true (by omega))) rfl rfl rfl ?_
      | refine TL_val (rr_neq rfl rfl (decide_eq_false (by omega))) rfl rfl rfl ?_
      | refine TL_val (rr_add64 rfl rfl (by omega) (by omega) rfl) rfl rfl rfl ?_
      | refine TL_val (rr_sub64 rfl rfl (by omega) (by omega) rfl) rfl rfl rfl ?_
      | refine TL_skip rfl rfl rfl rfl rfl rfl ?_
      | refine TL_gval (rr_loadB (i := 0) TyC.ty rfl rfl rfl) rfl rfl rfl rfl rfl ?_
      | refine TL_gval (rr_move rfl) rfl rfl rfl rfl rfl ?_
      | refine TL_gval (rr_eql rfl rfl (decide_eq_true (by omega))) rfl rfl rfl rfl rfl ?_
      | refine TL_gval (rr_eql rfl rfl (decide_eq_false (by omega))) rfl rfl rfl rfl rfl ?_)
    refine TL_call (he1 EntersC.en rfl rfl) (fun w hm => hck _) rfl rfl rfl ?_
    intro _ _
    repeat (first
      | refine TL_val (rr_move rfl) rfl rfl rfl ?_
      | refine TL_val (rr_assign rfl) rfl rfl rfl ?_
      | refine TL_nil ?_
      | refine T_seq ?_
      | refine T_region ?_
      | refine T_condT rfl ?_
      | refine T_condF rfl ?_
      | refine T_skip ?_
      | refine T_ret ?_
      | refine E_then ?_
      | refine E_thenR ?_
      | refine TL_val (rr_extract rfl rfl) rfl rfl rfl ?_
      | refine TL_val (rr_pickT rfl rfl) rfl rfl rfl ?_
      | refine TL_val (rr_pickF rfl rfl) rfl rfl rfl ?_
      | refine TL_val (rr_strlen Und.eq rfl) rfl rfl rfl ?_
      | refine TL_val (rr_len Und.eq rfl) rfl rfl rfl ?_
      | refine TL_val (rr_field FldC.fld rfl rfl) rfl rfl rfl ?_
      | refine TL_val (rr_eql rfl rfl (decide_eq_true (by omega))) rfl rfl rfl ?_
      | refine TL_val (rr_eql rfl rfl (decide_eq_false (by omega))) rfl rfl rfl ?_
      | refine TL_val (rr_neq rfl rfl (decide_eq_true (by omega))) rfl rfl rfl ?_
      | refine TL_val (rr_neq rfl rfl (decide_eq_false (by omega))) rfl rfl rfl ?_
      | refine TL_val (rr_add64 rfl rfl (by omega) (by omega) rfl) rfl rfl rfl ?_
      | refine TL_val (rr_sub64 rfl rfl (by omega) (by omega) rfl) rfl rfl rfl ?_
      | refine TL_skip rfl rfl rfl rfl rfl rfl ?_
      | refine TL_gval (rr_streq rfl rfl (decide_eq_true rfl)) rfl rfl rfl rfl rfl ?_
      | refine TL_gval (rr_move rfl) rfl rfl rfl rfl rfl ?_
      | refine TL_gval (rr_eql rfl rfl (decide_eq_true (by omega))) rfl rfl rfl rfl rfl ?_
      | refine TL_gval (rr_eql rfl rfl (decide_eq_false (by omega))) rfl rfl rfl rfl rfl ?_)
    exact E_ret1 rfl rfl fun w hm => hm.ret
theorem walk (W : World) (v : Value) (f : Fm) (hf : IsFr v f) (at_ : Int) (ha : kit.okI64 at_) (y : UInt8) : Calls Try.prog 14 #[v, .int .i64 at_, .int .u8 y.toNat] W (Meets (ret (.bool true)) W) := by
  rw [hf.1]
  exact walkF f hf.2.2.1 at_ ha y W
end Go.Proofs.Ytbgamboahifnoaa.frameTurned
