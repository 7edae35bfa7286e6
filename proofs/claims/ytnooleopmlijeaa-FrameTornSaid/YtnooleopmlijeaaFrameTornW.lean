/- The walk of FrameTorn. -/
import Derived.Test.YtnooleopmlijeaaFrameU
import Derived.Test.YtnooleopmlijeaaFrameS
import Derived.Test.YtnooleopmlijeaaFrameO
import Derived.Test.YtnooleopmlijeaaRestE
namespace Go.Proofs.Ytnooleopmlijeaa.eng
open Go.RowKit kit mix sumL frameL
/-- what Feed hands back, laid out -/
def feedX (b : List UInt8) (e : Int) (m : Nat) (xs : List Value) (e2 : Int) : Spec Value := ⟨fun _ => True, fun v => .tuple #[.agg #[str b, .int .i64 e], v, .int .i64 e2], fun v => [rowO 43 3 v m xs]⟩
theorem eq_in (a b : List UInt8) (x y : Int) (w : World) : (Op.equalIn 10000 47 (.agg #[str a, .int .i64 x]) (.agg #[str b, .int .i64 y])).run Try.prog w = .ok (decide (a = b) && (x == y)) w := by
  unfold str
  go_simp
  by_cases e1 : a = b <;> by_cases e2 : x = y <;> simp [e1, e2]
theorem build_fr1 (w : World) : (Instr.build 43 #[(0, .int .i64 1), (2, .string ⟨#[97]⟩)]).run Try.prog w = .ok (.agg #[.int .i64 1, .int .i64 0, str [97]]) w := by
  unfold str; go_simp
theorem sl_pre {w : World} {base : Option Addr} {cap k : Nat} {g : List Fm} (h : Sl w (.slice base g.length cap) g.length (g.flatMap frC)) (hk : k ≤ g.length) : Sl w (.slice base k cap) (g.take k).length ((g.take k).flatMap frC) := by
  obtain ⟨b, c, hv, h1, h2, h3⟩ := h
  simp only [Value.slice.injEq] at hv
  obtain ⟨rfl, _, rfl⟩ := hv
  have hl : (g.take k).length = k := by simp; omega
  refine ⟨base, cap, by rw [hl], by omega, h2, fun h0 => ?_⟩
  obtain ⟨b, off, h5, h6⟩ := h3 (by omega)
  refine ⟨b, off, h5, fun j u hj => h6 j u ?_⟩
  have e : g.flatMap frC = (g.take k).flatMap frC ++ (g.drop k).flatMap frC := by rw [← List.flatMap_append, List.take_append_drop]
  rw [e, List.getElem?_append_left (List.getElem?_eq_some_iff.1 hj).1]
  exact hj
theorem T_sl {P : Program} {n : Nat} {W : World} {fr : Fr} {L : List Own} {c : Code} {Q : Exit → Act → World → Prop} {v : Value} {m : Nat} {xs : List Value} (h : SlL W L v m xs) (h' : ∀ base cap, v = .slice base m cap → m ≤ cap → T P n W c Q fr L) : T P n W c Q fr L := .mk fun a w hr hm => by
  obtain ⟨base, cap, hv, h1, h2, _⟩ := h w hm
  exact (h' base cap hv h1).go a w hr hm
end Go.Proofs.Ytnooleopmlijeaa.eng
namespace Go.Proofs.Ytnooleopmlijeaa.frameTorn
open Go.RowKit kit mix sumL frameL eng
theorem good_take (l : List Fm) {k : Nat} (h : k < l.length) : good (l.take (k + 1)) = good (l.take k) ++ (if checkFr l[k] = 0 then [l[k]] else []) := by
  rw [List.take_succ_eq_append_getElem h, good, List.filter_append, good]
  congr 1
  by_cases c : checkFr l[k] = 0 <;> simp [c]
theorem good_le (l : List Fm) (k : Nat) : (good (l.take k)).length ≤ k := Nat.le_trans (List.length_filter_le _ _) (by simp; omega)
/-- how many whole frames lie in the first n bytes -/
def cnt : List Fm → Nat → Nat
  | [], _ => 0
  | f :: r, n => if (wrL f).length ≤ n then cnt r (n - (wrL f).length) + 1 else 0
theorem cnt_spec : ∀ (g : List Fm) (n : Nat), cnt g n ≤ g.length ∧ ∀ j, j < g.length → ((txt (g.take (j + 1))).length ≤ n ↔ j < cnt g n)
  | [], n => ⟨Nat.le_refl _, fun j h => by simp at h⟩
  | f :: r, n => by
    obtain ⟨h1, h2⟩ := cnt_spec r (n - (wrL f).length)
    unfold cnt
    by_cases c : (wrL f).length ≤ n
    · rw [if_pos c]
      refine ⟨by simp; omega, fun j h => ?_⟩
      rw [len_take]
      cases j with
      | zero => simp [txt]; omega
      | succ j =>
        have := h2 j (by simpa using h)
        constructor
        · intro h3; have := this.1 (by omega); omega
        · intro h3; have := this.2 (by omega); omega
    · rw [if_neg c]
      refine ⟨by simp, fun j h => ?_⟩
      rw [len_take]
      constructor <;> intro h3 <;> omega
theorem txt_le : ∀ (g : List Fm), (∀ f ∈ g, checkFr f = 0) → (txt g).length ≤ 1032 * g.length
  | [], _ => by simp [txt]
  | f :: r, h => by
    have ih := txt_le r fun x hx => h x (by simp [hx])
    have h1 := wrL_length f
    have h2 := checkFr_ok (h f (by simp))
    rw [len_cons, List.length_cons]; omega
attribute [local irreducible] Op.shift Go.bits in
set_option maxHeartbeats 4000000 in
theorem walk (w : World) (v0 : Value) (l : List Fm) (hs : Sl w v0 l.length (l.flatMap frC)) (_ : ∀ f ∈ l, okFr f) (hn : l.length * 32 ≤ 140737488351232) (at_ : Int) (ha : kit.okI64 at_) : Calls Try.prog 6 #[v0, .int .i64 at_] w (Meets (ret (.bool true)) w) := by
  obtain ⟨base, cap, rfl, hcap, hmax, hrd⟩ := hs
  unfold maxLen at hmax
  refine enter (args := [.slice base l.length cap, .int .i64 at_]) (n := 113) Try.func6 rfl rfl rfl ?_
  repeat (first
    | refine TL_val (rr_move rfl) rfl rfl rfl ?_
    | refine TL_val (rr_assign rfl) rfl rfl rfl ?_
    | refine TL_nil ?_
    | refine T_seq ?_
    | refine T_region ?_
    | refine T_condT rfl ?_
    | refine T_condF rfl ?_
    | refine T_skip ?_
    | refine T_exit ?_
    | refine T_ret ?_
    | refine T_block ?_
    | refine E_then ?_
    | refine E_thenX ?_
    | refine E_thenR ?_
    | refine E_blockN ?_
    | refine E_blockR ?_
    | refine E_blockX ?_
    | refine E_blockO rfl ?_
    | refine TL_val (rr_extract rfl rfl) rfl rfl rfl ?_
    | refine TL_val (rr_pickT rfl rfl) rfl rfl rfl ?_
    | refine TL_val (rr_pickF rfl rfl) rfl rfl rfl ?_
    | refine TL_val (rr_strlen Und.eq rfl) rfl rfl rfl ?_
    | refine TL_val (rr_len Und.eq rfl) rfl rfl rfl ?_
    | refine TL_val (rr_lss rfl rfl (decide_eq_true (by omega))) rfl rfl rfl ?_
    | refine TL_val (rr_lss rfl rfl (decide_eq_false (by omega))) rfl rfl rfl ?_
    | refine TL_val (rr_eql rfl rfl (decide_eq_true (by omega))) rfl rfl rfl ?_
    | refine TL_val (rr_eql rfl rfl (decide_eq_false (by omega))) rfl rfl rfl ?_
    | refine TL_val (rr_neq rfl rfl (decide_eq_true (by omega))) rfl rfl rfl ?_
    | refine TL_val (rr_neq rfl rfl (decide_eq_false (by omega))) rfl rfl rfl ?_
    | refine TL_val (rr_add64 rfl rfl (by omega) (by omega) rfl) rfl rfl rfl ?_
    | refine TL_skip rfl rfl rfl rfl rfl rfl ?_
    | refine TL_gval (rr_move rfl) rfl rfl rfl rfl rfl ?_
    | refine TL_gval (rr_strlen Und.eq rfl) rfl rfl rfl rfl rfl ?_
    | refine TL_gval (rr_leq rfl rfl (decide_eq_true (by omega))) rfl rfl rfl rfl rfl ?_
    | refine TL_gval (rr_leq rfl rfl (decide_eq_false (by omega))) rfl rfl rfl rfl rfl ?_
    | refine TL_gval (rr_neq rfl rfl (decide_eq_true (by omega))) rfl rfl rfl rfl rfl ?_
    | refine TL_gval (rr_neq rfl rfl (decide_eq_false (by omega))) rfl rfl rfl rfl rfl ?_)
  refine T_nil 3 1 (T_nil 43 3 ?_)
  refine T_loop (ι := Nat × Value × Value) (fun (k, _, _) => k ≤ l.length) (fun (k, v6, v7) => [(1, .int .i64 at_), (5, str (txt (good (l.take k)))), (6, v6), (7, v7), (20, .slice base l.length cap), (21, .int .i64 l.length), (22, .int .i64 (k : Int))]) (fun (k, v6, v7) => [rowO 3 1 v6 (good (l.take k)).length ((endsOf (good (l.take k))).map (.int .i64)), frRow v7 (good (l.take k))]) (fun (k, _, _) => l.length - k) (0, .slice none 0 0, .slice none 0 0) (by omega) ⟨rfl, rfl, rfl, rfl, rfl, rfl, rfl, trivial⟩ rfl ?_
  rintro ⟨k, v6, v7⟩ h1
  dsimp only at h1 ⊢
  by_cases c2 : k < l.length
  · obtain ⟨b, off, rfl, hr⟩ := hrd (by omega)
    have hgt := good_take l c2
    have hgl := good_le l k
    have hgo := txt_le (good (l.take k)) (fun f hf => good_ok hf)
    have hwr := fun w => frWrite_calls l[k] w
    unfold writeFr at hwr
    generalize hG : good (l.take k) = G at *
    clear hrd
    by_cases c3 : checkFr l[k] = 0
    · rw [if_pos c3] at hgt
      rw [if_neg (by simpa using c3)] at hwr
      dsimp only at hwr
      have hend := endsOf_snoc G l[k]
      have htx := txt_snoc G l[k]
      have hwl := wrL_length l[k]
      have hck := checkFr_ok c3
      repeat (first
        | refine TL_val (rr_move rfl) rfl rfl rfl ?_
        | refine TL_val (rr_assign rfl) rfl rfl rfl ?_
        | refine TL_nil ?_
        | refine T_seq ?_
        | refine T_region ?_
        | refine T_condT rfl ?_
        | refine T_condF rfl ?_
        | refine T_skip ?_
        | refine T_exit ?_
        | refine T_ret ?_
        | refine T_block ?_
        | refine E_then ?_
        | refine E_thenX ?_
        | refine E_thenR ?_
        | refine E_blockN ?_
        | refine E_blockR ?_
        | refine E_blockX ?_
        | refine E_blockO rfl ?_
        | refine TL_val (rr_idxc Und.eq TyC.ty rfl rfl c2) rfl rfl rfl ?_
        | refine TL_val (rr_loadN TyC.ty rfl rfl (at_fr hr c2)) rfl rfl rfl ?_
        | refine TL_val (rr_extract rfl rfl) rfl rfl rfl ?_
        | refine TL_val (rr_pickT rfl rfl) rfl rfl rfl ?_
        | refine TL_val (rr_pickF rfl rfl) rfl rfl rfl ?_
        | refine TL_val (rr_strlen Und.eq rfl) rfl rfl rfl ?_
        | refine TL_val (rr_len Und.eq rfl) rfl rfl rfl ?_
        | refine TL_val (rr_lss rfl rfl (decide_eq_true (by omega))) rfl rfl rfl ?_
        | refine TL_val (rr_lss rfl rfl (decide_eq_false (by omega))) rfl rfl rfl ?_
        | refine TL_val (rr_eql rfl rfl (decide_eq_true (by omega))) rfl rfl rfl ?_
        | refine TL_val (rr_eql rfl rfl (decide_eq_false (by omega))) rfl rfl rfl ?_
        | refine TL_val (rr_neq rfl rfl (decide_eq_true (by omega))) rfl rfl rfl ?_
        | refine TL_val (rr_neq rfl rfl (decide_eq_false (by omega))) rfl rfl rfl ?_
        | refine TL_val (rr_add64 rfl rfl (by omega) (by omega) rfl) rfl rfl rfl ?_
        | refine TL_skip rfl rfl rfl rfl rfl rfl ?_
        | refine TL_gval (rr_idxc Und.eq TyC.ty rfl rfl c2) rfl rfl rfl rfl rfl ?_
        | refine TL_gval (rr_loadN TyC.ty rfl rfl (at_fr hr c2)) rfl rfl rfl rfl rfl ?_
        | refine TL_gval (rr_move rfl) rfl rfl rfl rfl rfl ?_
        | refine TL_gval (rr_strlen Und.eq rfl) rfl rfl rfl rfl rfl ?_
        | refine TL_gval (rr_leq rfl rfl (decide_eq_true (by omega))) rfl rfl rfl rfl rfl ?_
        | refine TL_gval (rr_leq rfl rfl (decide_eq_false (by omega))) rfl rfl rfl rfl rfl ?_
        | refine TL_gval (rr_neq rfl rfl (decide_eq_true (by omega))) rfl rfl rfl rfl rfl ?_
        | refine TL_gval (rr_neq rfl rfl (decide_eq_false (by omega))) rfl rfl rfl rfl rfl ?_)
      refine TL_new rfl fun g3 => ?_
      refine TL_storeB (i := 2) rfl rfl rfl rfl rfl rfl ?_
      repeat (first
        | refine TL_val (rr_move rfl) rfl rfl rfl ?_
        | refine TL_val (rr_assign rfl) rfl rfl rfl ?_
        | refine TL_nil ?_
        | refine T_seq ?_
        | refine T_region ?_
        | refine T_condT rfl ?_
        | refine T_condF rfl ?_
        | refine T_skip ?_
        | refine T_exit ?_
        | refine T_ret ?_
        | refine T_block ?_
        | refine E_then ?_
        | refine E_thenX ?_
        | refine E_thenR ?_
        | refine E_blockN ?_
        | refine E_blockR ?_
        | refine E_blockX ?_
        | refine E_blockO rfl ?_
        | refine TL_val (rr_loadB (i := 2) TyC.ty rfl rfl rfl) rfl rfl rfl ?_
        | refine TL_val (rr_extract rfl rfl) rfl rfl rfl ?_
        | refine TL_val (rr_pickT rfl rfl) rfl rfl rfl ?_
        | refine TL_val (rr_pickF rfl rfl) rfl rfl rfl ?_
        | refine TL_val (rr_strlen Und.eq rfl) rfl rfl rfl ?_
        | refine TL_val (rr_len Und.eq rfl) rfl rfl rfl ?_
        | refine TL_val (rr_lss rfl rfl (decide_eq_true (by omega))) rfl rfl rfl ?_
        | refine TL_val (rr_lss rfl rfl (decide_eq_false (by omega))) rfl rfl rfl ?_
        | refine TL_val (rr_eql rfl rfl (decide_eq_true (by omega))) rfl rfl rfl ?_
        | refine TL_val (rr_eql rfl rfl (decide_eq_false (by omega))) rfl rfl rfl ?_
        | refine TL_val (rr_neq rfl rfl (decide_eq_true (by omega))) rfl rfl rfl ?_
        | refine TL_val (rr_neq rfl rfl (decide_eq_false (by omega))) rfl rfl rfl ?_
        | refine TL_val (rr_add64 rfl rfl (by omega) (by omega) rfl) rfl rfl rfl ?_
        | refine TL_skip rfl rfl rfl rfl rfl rfl ?_
        | refine TL_gval (rr_loadB (i := 2) TyC.ty rfl rfl rfl) rfl rfl rfl rfl rfl ?_
        | refine TL_gval (rr_move rfl) rfl rfl rfl rfl rfl ?_
        | refine TL_gval (rr_strlen Und.eq rfl) rfl rfl rfl rfl rfl ?_
        | refine TL_gval (rr_leq rfl rfl (decide_eq_true (by omega))) rfl rfl rfl rfl rfl ?_
        | refine TL_gval (rr_leq rfl rfl (decide_eq_false (by omega))) rfl rfl rfl rfl rfl ?_
        | refine TL_gval (rr_neq rfl rfl (decide_eq_true (by omega))) rfl rfl rfl rfl rfl ?_
        | refine TL_gval (rr_neq rfl rfl (decide_eq_false (by omega))) rfl rfl rfl rfl rfl ?_)
      refine TL_call (he1 EntersC.en rfl rfl) (fun w hm => hwr _) rfl rfl rfl ?_
      intro _ _
      repeat (first
        | refine TL_val (rr_move rfl) rfl rfl rfl ?_
        | refine TL_val (rr_assign rfl) rfl rfl rfl ?_
        | refine TL_nil ?_
        | refine T_seq ?_
        | refine T_region ?_
        | refine T_condT rfl ?_
        | refine T_condF rfl ?_
        | refine T_skip ?_
        | refine T_exit ?_
        | refine T_ret ?_
        | refine T_block ?_
        | refine E_then ?_
        | refine E_thenX ?_
        | refine E_thenR ?_
        | refine E_blockN ?_
        | refine E_blockR ?_
        | refine E_blockX ?_
        | refine E_blockO rfl ?_
        | refine TL_val (rr_stradd rfl rfl (by omega)) rfl rfl rfl ?_
        | refine TL_val (rr_extract rfl rfl) rfl rfl rfl ?_
        | refine TL_val (rr_pickT rfl rfl) rfl rfl rfl ?_
        | refine TL_val (rr_pickF rfl rfl) rfl rfl rfl ?_
        | refine TL_val (rr_strlen Und.eq rfl) rfl rfl rfl ?_
        | refine TL_val (rr_len Und.eq rfl) rfl rfl rfl ?_
        | refine TL_val (rr_lss rfl rfl (decide_eq_true (by omega))) rfl rfl rfl ?_
        | refine TL_val (rr_lss rfl rfl (decide_eq_false (by omega))) rfl rfl rfl ?_
        | refine TL_val (rr_eql rfl rfl (decide_eq_true (by omega))) rfl rfl rfl ?_
        | refine TL_val (rr_eql rfl rfl (decide_eq_false (by omega))) rfl rfl rfl ?_
        | refine TL_val (rr_neq rfl rfl (decide_eq_true (by omega))) rfl rfl rfl ?_
        | refine TL_val (rr_neq rfl rfl (decide_eq_false (by omega))) rfl rfl rfl ?_
        | refine TL_val (rr_add64 rfl rfl (by omega) (by omega) rfl) rfl rfl rfl ?_
        | refine TL_skip rfl rfl rfl rfl rfl rfl ?_
        | refine TL_gval (rr_move rfl) rfl rfl rfl rfl rfl ?_
        | refine TL_gval (rr_strlen Und.eq rfl) rfl rfl rfl rfl rfl ?_
        | refine TL_gval (rr_leq rfl rfl (decide_eq_true (by omega))) rfl rfl rfl rfl rfl ?_
        | refine TL_gval (rr_leq rfl rfl (decide_eq_false (by omega))) rfl rfl rfl rfl rfl ?_
        | refine TL_gval (rr_neq rfl rfl (decide_eq_true (by omega))) rfl rfl rfl rfl rfl ?_
        | refine TL_gval (rr_neq rfl rfl (decide_eq_false (by omega))) rfl rfl rfl rfl rfl ?_)
      refine TL_push1 (i := 0) rfl rfl rfl rfl rfl rfl (fun z h => by cases h; rfl) (by omega) (by omega) rfl fun z v6' => ?_
      repeat (first
        | refine TL_val (rr_move rfl) rfl rfl rfl ?_
        | refine TL_val (rr_assign rfl) rfl rfl rfl ?_
        | refine TL_nil ?_
        | refine T_seq ?_
        | refine T_region ?_
        | refine T_condT rfl ?_
        | refine T_condF rfl ?_
        | refine T_skip ?_
        | refine T_exit ?_
        | refine T_ret ?_
        | refine T_block ?_
        | refine E_then ?_
        | refine E_thenX ?_
        | refine E_thenR ?_
        | refine E_blockN ?_
        | refine E_blockR ?_
        | refine E_blockX ?_
        | refine E_blockO rfl ?_
        | refine TL_val (rr_loadB (i := 2) TyC.ty rfl rfl rfl) rfl rfl rfl ?_
        | refine TL_val (rr_extract rfl rfl) rfl rfl rfl ?_
        | refine TL_val (rr_pickT rfl rfl) rfl rfl rfl ?_
        | refine TL_val (rr_pickF rfl rfl) rfl rfl rfl ?_
        | refine TL_val (rr_strlen Und.eq rfl) rfl rfl rfl ?_
        | refine TL_val (rr_len Und.eq rfl) rfl rfl rfl ?_
        | refine TL_val (rr_lss rfl rfl (decide_eq_true (by omega))) rfl rfl rfl ?_
        | refine TL_val (rr_lss rfl rfl (decide_eq_false (by omega))) rfl rfl rfl ?_
        | refine TL_val (rr_eql rfl rfl (decide_eq_true (by omega))) rfl rfl rfl ?_
        | refine TL_val (rr_eql rfl rfl (decide_eq_false (by omega))) rfl rfl rfl ?_
        | refine TL_val (rr_neq rfl rfl (decide_eq_true (by omega))) rfl rfl rfl ?_
        | refine TL_val (rr_neq rfl rfl (decide_eq_false (by omega))) rfl rfl rfl ?_
        | refine TL_val (rr_add64 rfl rfl (by omega) (by omega) rfl) rfl rfl rfl ?_
        | refine TL_skip rfl rfl rfl rfl rfl rfl ?_
        | refine TL_gval (rr_loadB (i := 2) TyC.ty rfl rfl rfl) rfl rfl rfl rfl rfl ?_
        | refine TL_gval (rr_move rfl) rfl rfl rfl rfl rfl ?_
        | refine TL_gval (rr_strlen Und.eq rfl) rfl rfl rfl rfl rfl ?_
        | refine TL_gval (rr_leq rfl rfl (decide_eq_true (by omega))) rfl rfl rfl rfl rfl ?_
        | refine TL_gval (rr_leq rfl rfl (decide_eq_false (by omega))) rfl rfl rfl rfl rfl ?_
        | refine TL_gval (rr_neq rfl rfl (decide_eq_true (by omega))) rfl rfl rfl rfl rfl ?_
        | refine TL_gval (rr_neq rfl rfl (decide_eq_false (by omega))) rfl rfl rfl rfl rfl ?_)
      refine TL_pushN (i := 1) rfl rfl rfl rfl rfl rfl rfl (fun z h => by cases h; rfl) (by omega) (by omega) rfl fun z v7' => ?_
      repeat (first
        | refine TL_val (rr_move rfl) rfl rfl rfl ?_
        | refine TL_val (rr_assign rfl) rfl rfl rfl ?_
        | refine TL_nil ?_
        | refine T_seq ?_
        | refine T_region ?_
        | refine T_condT rfl ?_
        | refine T_condF rfl ?_
        | refine T_skip ?_
        | refine T_exit ?_
        | refine T_ret ?_
        | refine T_block ?_
        | refine E_then ?_
        | refine E_thenX ?_
        | refine E_thenR ?_
        | refine E_blockN ?_
        | refine E_blockR ?_
        | refine E_blockX ?_
        | refine E_blockO rfl ?_
        | refine TL_val (rr_extract rfl rfl) rfl rfl rfl ?_
        | refine TL_val (rr_pickT rfl rfl) rfl rfl rfl ?_
        | refine TL_val (rr_pickF rfl rfl) rfl rfl rfl ?_
        | refine TL_val (rr_strlen Und.eq rfl) rfl rfl rfl ?_
        | refine TL_val (rr_len Und.eq rfl) rfl rfl rfl ?_
        | refine TL_val (rr_lss rfl rfl (decide_eq_true (by omega))) rfl rfl rfl ?_
        | refine TL_val (rr_lss rfl rfl (decide_eq_false (by omega))) rfl rfl rfl ?_
        | refine TL_val (rr_eql rfl rfl (decide_eq_true (by omega))) rfl rfl rfl ?_
        | refine TL_val (rr_eql rfl rfl (decide_eq_false (by omega))) rfl rfl rfl ?_
        | refine TL_val (rr_neq rfl rfl (decide_eq_true (by omega))) rfl rfl rfl ?_
        | refine TL_val (rr_neq rfl rfl (decide_eq_false (by omega))) rfl rfl rfl ?_
        | refine TL_val (rr_add64 rfl rfl (by omega) (by omega) rfl) rfl rfl rfl ?_
        | refine TL_skip rfl rfl rfl rfl rfl rfl ?_
        | refine TL_gval (rr_move rfl) rfl rfl rfl rfl rfl ?_
        | refine TL_gval (rr_strlen Und.eq rfl) rfl rfl rfl rfl rfl ?_
        | refine TL_gval (rr_leq rfl rfl (decide_eq_true (by omega))) rfl rfl rfl rfl rfl ?_
        | refine TL_gval (rr_leq rfl rfl (decide_eq_false (by omega))) rfl rfl rfl rfl rfl ?_
        | refine TL_gval (rr_neq rfl rfl (decide_eq_true (by omega))) rfl rfl rfl rfl rfl ?_
        | refine TL_gval (rr_neq rfl rfl (decide_eq_false (by omega))) rfl rfl rfl rfl rfl ?_)
      refine E_pick [0, 1] (by decide) rfl ?_
      exact E_round (k + 1, v6', v7') (by omega) (by show l.length - (k + 1) < l.length - k; omega) ⟨rfl, by rw [hgt, htx]; rfl, rfl, rfl, rfl, rfl, rfl, trivial⟩ (by simp [hgt, hend, htx, frRow, frC])
    · rw [if_neg c3, List.append_nil] at hgt
      rw [if_pos c3] at hwr
      dsimp only at hwr
      repeat (first
        | refine TL_val (rr_move rfl) rfl rfl rfl ?_
        | refine TL_val (rr_assign rfl) rfl rfl rfl ?_
        | refine TL_nil ?_
        | refine T_seq ?_
        | refine T_region ?_
        | refine T_condT rfl ?_
        | refine T_condF rfl ?_
        | refine T_skip ?_
        | refine T_exit ?_
        | refine T_ret ?_
        | refine T_block ?_
        | refine E_then ?_
        | refine E_thenX ?_
        | refine E_thenR ?_
        | refine E_blockN ?_
        | refine E_blockR ?_
        | refine E_blockX ?_
        | refine E_blockO rfl ?_
        | refine TL_val (rr_idxc Und.eq TyC.ty rfl rfl c2) rfl rfl rfl ?_
        | refine TL_val (rr_loadN TyC.ty rfl rfl (at_fr hr c2)) rfl rfl rfl ?_
        | refine TL_val (rr_extract rfl rfl) rfl rfl rfl ?_
        | refine TL_val (rr_pickT rfl rfl) rfl rfl rfl ?_
        | refine TL_val (rr_pickF rfl rfl) rfl rfl rfl ?_
        | refine TL_val (rr_strlen Und.eq rfl) rfl rfl rfl ?_
        | refine TL_val (rr_len Und.eq rfl) rfl rfl rfl ?_
        | refine TL_val (rr_lss rfl rfl (decide_eq_true (by omega))) rfl rfl rfl ?_
        | refine TL_val (rr_lss rfl rfl (decide_eq_false (by omega))) rfl rfl rfl ?_
        | refine TL_val (rr_eql rfl rfl (decide_eq_true (by omega))) rfl rfl rfl ?_
        | refine TL_val (rr_eql rfl rfl (decide_eq_false (by omega))) rfl rfl rfl ?_
        | refine TL_val (rr_neq rfl rfl (decide_eq_true (by omega))) rfl rfl rfl ?_
        | refine TL_val (rr_neq rfl rfl (decide_eq_false (by omega))) rfl rfl rfl ?_
        | refine TL_val (rr_add64 rfl rfl (by omega) (by omega) rfl) rfl rfl rfl ?_
        | refine TL_skip rfl rfl rfl rfl rfl rfl ?_
        | refine TL_gval (rr_idxc Und.eq TyC.ty rfl rfl c2) rfl rfl rfl rfl rfl ?_
        | refine TL_gval (rr_loadN TyC.ty rfl rfl (at_fr hr c2)) rfl rfl rfl rfl rfl ?_
        | refine TL_gval (rr_move rfl) rfl rfl rfl rfl rfl ?_
        | refine TL_gval (rr_strlen Und.eq rfl) rfl rfl rfl rfl rfl ?_
        | refine TL_gval (rr_leq rfl rfl (decide_eq_true (by omega))) rfl rfl rfl rfl rfl ?_
        | refine TL_gval (rr_leq rfl rfl (decide_eq_false (by omega))) rfl rfl rfl rfl rfl ?_
        | refine TL_gval (rr_neq rfl rfl (decide_eq_true (by omega))) rfl rfl rfl rfl rfl ?_
        | refine TL_gval (rr_neq rfl rfl (decide_eq_false (by omega))) rfl rfl rfl rfl rfl ?_)
      refine TL_new rfl fun g3 => ?_
      refine TL_storeB (i := 2) rfl rfl rfl rfl rfl rfl ?_
      repeat (first
        | refine TL_val (rr_move rfl) rfl rfl rfl ?_
        | refine TL_val (rr_assign rfl) rfl rfl rfl ?_
        | refine TL_nil ?_
        | refine T_seq ?_
        | refine T_region ?_
        | refine T_condT rfl ?_
        | refine T_condF rfl ?_
        | refine T_skip ?_
        | refine T_exit ?_
        | refine T_ret ?_
        | refine T_block ?_
        | refine E_then ?_
        | refine E_thenX ?_
        | refine E_thenR ?_
        | refine E_blockN ?_
        | refine E_blockR ?_
        | refine E_blockX ?_
        | refine E_blockO rfl ?_
        | refine TL_val (rr_loadB (i := 2) TyC.ty rfl rfl rfl) rfl rfl rfl ?_
        | refine TL_val (rr_extract rfl rfl) rfl rfl rfl ?_
        | refine TL_val (rr_pickT rfl rfl) rfl rfl rfl ?_
        | refine TL_val (rr_pickF rfl rfl) rfl rfl rfl ?_
        | refine TL_val (rr_strlen Und.eq rfl) rfl rfl rfl ?_
        | refine TL_val (rr_len Und.eq rfl) rfl rfl rfl ?_
        | refine TL_val (rr_lss rfl rfl (decide_eq_true (by omega))) rfl rfl rfl ?_
        | refine TL_val (rr_lss rfl rfl (decide_eq_false (by omega))) rfl rfl rfl ?_
        | refine TL_val (rr_eql rfl rfl (decide_eq_true (by omega))) rfl rfl rfl ?_
        | refine TL_val (rr_eql rfl rfl (decide_eq_false (by omega))) rfl rfl rfl ?_
        | refine TL_val (rr_neq rfl rfl (decide_eq_true (by omega))) rfl rfl rfl ?_
        | refine TL_val (rr_neq rfl rfl (decide_eq_false (by omega))) rfl rfl rfl ?_
        | refine TL_val (rr_add64 rfl rfl (by omega) (by omega) rfl) rfl rfl rfl ?_
        | refine TL_skip rfl rfl rfl rfl rfl rfl ?_
        | refine TL_gval (rr_loadB (i := 2) TyC.ty rfl rfl rfl) rfl rfl rfl rfl rfl ?_
        | refine TL_gval (rr_move rfl) rfl rfl rfl rfl rfl ?_
        | refine TL_gval (rr_strlen Und.eq rfl) rfl rfl rfl rfl rfl ?_
        | refine TL_gval (rr_leq rfl rfl (decide_eq_true (by omega))) rfl rfl rfl rfl rfl ?_
        | refine TL_gval (rr_leq rfl rfl (decide_eq_false (by omega))) rfl rfl rfl rfl rfl ?_
        | refine TL_gval (rr_neq rfl rfl (decide_eq_true (by omega))) rfl rfl rfl rfl rfl ?_
        | refine TL_gval (rr_neq rfl rfl (decide_eq_false (by omega))) rfl rfl rfl rfl rfl ?_)
      refine TL_call (he1 EntersC.en rfl rfl) (fun w hm => hwr _) rfl rfl rfl ?_
      intro _ _
      repeat (first
        | refine TL_val (rr_move rfl) rfl rfl rfl ?_
        | refine TL_val (rr_assign rfl) rfl rfl rfl ?_
        | refine TL_nil ?_
        | refine T_seq ?_
        | refine T_region ?_
        | refine T_condT rfl ?_
        | refine T_condF rfl ?_
        | refine T_skip ?_
        | refine T_exit ?_
        | refine T_ret ?_
        | refine T_block ?_
        | refine E_then ?_
        | refine E_thenX ?_
        | refine E_thenR ?_
        | refine E_blockN ?_
        | refine E_blockR ?_
        | refine E_blockX ?_
        | refine E_blockO rfl ?_
        | refine TL_val (rr_extract rfl rfl) rfl rfl rfl ?_
        | refine TL_val (rr_pickT rfl rfl) rfl rfl rfl ?_
        | refine TL_val (rr_pickF rfl rfl) rfl rfl rfl ?_
        | refine TL_val (rr_strlen Und.eq rfl) rfl rfl rfl ?_
        | refine TL_val (rr_len Und.eq rfl) rfl rfl rfl ?_
        | refine TL_val (rr_lss rfl rfl (decide_eq_true (by omega))) rfl rfl rfl ?_
        | refine TL_val (rr_lss rfl rfl (decide_eq_false (by omega))) rfl rfl rfl ?_
        | refine TL_val (rr_eql rfl rfl (decide_eq_true (by omega))) rfl rfl rfl ?_
        | refine TL_val (rr_eql rfl rfl (decide_eq_false (by omega))) rfl rfl rfl ?_
        | refine TL_val (rr_neq rfl rfl (decide_eq_true (by omega))) rfl rfl rfl ?_
        | refine TL_val (rr_neq rfl rfl (decide_eq_false (by omega))) rfl rfl rfl ?_
        | refine TL_val (rr_add64 rfl rfl (by omega) (by omega) rfl) rfl rfl rfl ?_
        | refine TL_skip rfl rfl rfl rfl rfl rfl ?_
        | refine TL_gval (rr_move rfl) rfl rfl rfl rfl rfl ?_
        | refine TL_gval (rr_strlen Und.eq rfl) rfl rfl rfl rfl rfl ?_
        | refine TL_gval (rr_leq rfl rfl (decide_eq_true (by omega))) rfl rfl rfl rfl rfl ?_
        | refine TL_gval (rr_leq rfl rfl (decide_eq_false (by omega))) rfl rfl rfl rfl rfl ?_
        | refine TL_gval (rr_neq rfl rfl (decide_eq_true (by omega))) rfl rfl rfl rfl rfl ?_
        | refine TL_gval (rr_neq rfl rfl (decide_eq_false (by omega))) rfl rfl rfl rfl rfl ?_)
      refine E_pick [0, 1] (by decide) rfl ?_
      exact E_round (k + 1, v6, v7) (by omega) (by show l.length - (k + 1) < l.length - k; omega) ⟨rfl, by rw [hgt]; rfl, rfl, rfl, rfl, rfl, rfl, trivial⟩ (by simp [hgt])
  · have hk : l.take k = l := List.take_of_length_le (by omega)
    have hgl := good_le l k
    have hgo := txt_le (good (l.take k)) (fun f hf => good_ok hf)
    have hok : ∀ f ∈ good (l.take k), checkFr f = 0 := fun f hf => good_ok hf
    generalize good (l.take k) = g at *
    clear hrd hk
    generalize hT : txt g = T at *
    have hm0 := Int.emod_nonneg at_ (b := (T.length : Int) + 1) (by omega)
    have hm1 := Int.emod_lt_of_pos at_ (b := (T.length : Int) + 1) (by omega)
    have hrest := fun w => restE at_ ((T.length : Int) + 1) w ha.1 ha.2 (by omega) (by omega)
    obtain ⟨n, hn0⟩ : ∃ n : Nat, at_ % ((T.length : Int) + 1) = n := ⟨(at_ % ((T.length : Int) + 1)).toNat, by omega⟩
    rw [hn0] at hrest hm0 hm1
    have hnT : n ≤ T.length := by omega
    obtain ⟨hc1, hc2⟩ := cnt_spec g n
    generalize cnt g n = m at *
    have hfrom : (txt (g.take m)).length ≤ n := by
      by_cases h0 : m = 0
      · subst h0; simp [txt]
      · have := (hc2 (m - 1) (by omega)).2 (by omega)
        rwa [show m - 1 + 1 = m by omega] at this
    have hfd := feed_torn m g n [] hok hc1 hfrom (fun _ => by rw [hT]; exact hnT) (fun h => by
      have h3 := hc2 m h
      have : ¬ (txt (g.take (m + 1))).length ≤ n := fun h4 => by have := h3.1 h4; omega
      omega)
    rw [hT, List.nil_append, List.drop_take] at hfd
    have hgm : (g.take m).length = m := by simp; omega
    have hfeed := fun w h => feedG_calls ([], 0) (T.take n) w h (by rw [feedF_eq, if_neg (by simp), List.nil_append, hfd]; simp only [hgm]; omega)
    rw [feedF_eq, if_neg (by simp), List.nil_append, hfd] at hfeed
    replace hfeed : ∀ w, ([] : List UInt8).length + (T.take n).length ≤ 1000000000000000000 → Calls Try.prog 24 #[.agg #[str [], .int .i64 0], str (T.take n)] w (Meets (feedX ((T.drop (txt (g.take m)).length).take (n - (txt (g.take m)).length)) 0 (g.take m).length ((g.take m).flatMap frC) 0) w) := hfeed
    clear hfd
    generalize hX : (T.drop (txt (g.take m)).length).take (n - (txt (g.take m)).length) = X at *
    repeat (first
      | refine TL_val (rr_move rfl) rfl rfl rfl ?_
      | refine TL_val (rr_assign rfl) rfl rfl rfl ?_
      | refine TL_nil ?_
      | refine T_seq ?_
      | refine T_region ?_
      | refine T_condT rfl ?_
      | refine T_condF rfl ?_
      | refine T_skip ?_
      | refine T_exit ?_
      | refine T_ret ?_
      | refine T_block ?_
      | refine E_then ?_
      | refine E_thenX ?_
      | refine E_thenR ?_
      | refine E_blockN ?_
      | refine E_blockR ?_
      | refine E_blockX ?_
      | refine E_blockO rfl ?_
      | refine TL_val (rr_extract rfl rfl) rfl rfl rfl ?_
      | refine TL_val (rr_pickT rfl rfl) rfl rfl rfl ?_
      | refine TL_val (rr_pickF rfl rfl) rfl rfl rfl ?_
      | refine TL_val (rr_strlen Und.eq rfl) rfl rfl rfl ?_
      | refine TL_val (rr_len Und.eq rfl) rfl rfl rfl ?_
      | refine TL_val (rr_lss rfl rfl (decide_eq_true (by omega))) rfl rfl rfl ?_
      | refine TL_val (rr_lss rfl rfl (decide_eq_false (by omega))) rfl rfl rfl ?_
      | refine TL_val (rr_eql rfl rfl (decide_eq_true (by omega))) rfl rfl rfl ?_
      | refine TL_val (rr_eql rfl rfl (decide_eq_false (by omega))) rfl rfl rfl ?_
      | refine TL_val (rr_neq rfl rfl (decide_eq_true (by omega))) rfl rfl rfl ?_
      | refine TL_val (rr_neq rfl rfl (decide_eq_false (by omega))) rfl rfl rfl ?_
      | refine TL_val (rr_add64 rfl rfl (by omega) (by omega) rfl) rfl rfl rfl ?_
      | refine TL_skip rfl rfl rfl rfl rfl rfl ?_
      | refine TL_gval (rr_move rfl) rfl rfl rfl rfl rfl ?_
      | refine TL_gval (rr_strlen Und.eq rfl) rfl rfl rfl rfl rfl ?_
      | refine TL_gval (rr_leq rfl rfl (decide_eq_true (by omega))) rfl rfl rfl rfl rfl ?_
      | refine TL_gval (rr_leq rfl rfl (decide_eq_false (by omega))) rfl rfl rfl rfl rfl ?_
      | refine TL_gval (rr_neq rfl rfl (decide_eq_true (by omega))) rfl rfl rfl rfl rfl ?_
      | refine TL_gval (rr_neq rfl rfl (decide_eq_false (by omega))) rfl rfl rfl rfl rfl ?_)
    refine TL_call (he2 EntersC.en rfl rfl rfl) (fun w hm => hrest _) rfl rfl rfl ?_
    intro _ _
    clear hrest
    repeat (first
      | refine TL_val (rr_move rfl) rfl rfl rfl ?_
      | refine TL_val (rr_assign rfl) rfl rfl rfl ?_
      | refine TL_nil ?_
      | refine T_seq ?_
      | refine T_region ?_
      | refine T_condT rfl ?_
      | refine T_condF rfl ?_
      | refine T_skip ?_
      | refine T_exit ?_
      | refine T_ret ?_
      | refine T_block ?_
      | refine E_then ?_
      | refine E_thenX ?_
      | refine E_thenR ?_
      | refine E_blockN ?_
      | refine E_blockR ?_
      | refine E_blockX ?_
      | refine E_blockO rfl ?_
      | refine TL_val (rr_build rfl build_in) rfl rfl rfl ?_
      | refine TL_val (rr_strupto Und.eq rfl rfl hnT) rfl rfl rfl ?_
      | refine TL_val (rr_extract rfl rfl) rfl rfl rfl ?_
      | refine TL_val (rr_pickT rfl rfl) rfl rfl rfl ?_
      | refine TL_val (rr_pickF rfl rfl) rfl rfl rfl ?_
      | refine TL_val (rr_strlen Und.eq rfl) rfl rfl rfl ?_
      | refine TL_val (rr_len Und.eq rfl) rfl rfl rfl ?_
      | refine TL_val (rr_lss rfl rfl (decide_eq_true (by omega))) rfl rfl rfl ?_
      | refine TL_val (rr_lss rfl rfl (decide_eq_false (by omega))) rfl rfl rfl ?_
      | refine TL_val (rr_eql rfl rfl (decide_eq_true (by omega))) rfl rfl rfl ?_
      | refine TL_val (rr_eql rfl rfl (decide_eq_false (by omega))) rfl rfl rfl ?_
      | refine TL_val (rr_neq rfl rfl (decide_eq_true (by omega))) rfl rfl rfl ?_
      | refine TL_val (rr_neq rfl rfl (decide_eq_false (by omega))) rfl rfl rfl ?_
      | refine TL_val (rr_add64 rfl rfl (by omega) (by omega) rfl) rfl rfl rfl ?_
      | refine TL_skip rfl rfl rfl rfl rfl rfl ?_
      | refine TL_gval (rr_build rfl build_in) rfl rfl rfl rfl rfl ?_
      | refine TL_gval (rr_strupto Und.eq rfl rfl hnT) rfl rfl rfl rfl rfl ?_
      | refine TL_gval (rr_move rfl) rfl rfl rfl rfl rfl ?_
      | refine TL_gval (rr_strlen Und.eq rfl) rfl rfl rfl rfl rfl ?_
      | refine TL_gval (rr_leq rfl rfl (decide_eq_true (by omega))) rfl rfl rfl rfl rfl ?_
      | refine TL_gval (rr_leq rfl rfl (decide_eq_false (by omega))) rfl rfl rfl rfl rfl ?_
      | refine TL_gval (rr_neq rfl rfl (decide_eq_true (by omega))) rfl rfl rfl rfl rfl ?_
      | refine TL_gval (rr_neq rfl rfl (decide_eq_false (by omega))) rfl rfl rfl rfl rfl ?_)
    refine TL_call (he2 EntersC.en rfl rfl rfl) (fun w hm => hfeed _ (by simp; omega)) rfl rfl rfl ?_
    rintro v' _
    clear hfeed
    repeat (first
      | refine TL_val (rr_move rfl) rfl rfl rfl ?_
      | refine TL_val (rr_assign rfl) rfl rfl rfl ?_
      | refine TL_nil ?_
      | refine T_seq ?_
      | refine T_region ?_
      | refine T_condT rfl ?_
      | refine T_condF rfl ?_
      | refine T_skip ?_
      | refine T_exit ?_
      | refine T_ret ?_
      | refine T_block ?_
      | refine E_then ?_
      | refine E_thenX ?_
      | refine E_thenR ?_
      | refine E_blockN ?_
      | refine E_blockR ?_
      | refine E_blockX ?_
      | refine E_blockO rfl ?_
      | refine TL_val (rr_extract rfl rfl) rfl rfl rfl ?_
      | refine TL_val (rr_pickT rfl rfl) rfl rfl rfl ?_
      | refine TL_val (rr_pickF rfl rfl) rfl rfl rfl ?_
      | refine TL_val (rr_strlen Und.eq rfl) rfl rfl rfl ?_
      | refine TL_val (rr_len Und.eq rfl) rfl rfl rfl ?_
      | refine TL_val (rr_lss rfl rfl (decide_eq_true (by omega))) rfl rfl rfl ?_
      | refine TL_val (rr_lss rfl rfl (decide_eq_false (by omega))) rfl rfl rfl ?_
      | refine TL_val (rr_eql rfl rfl (decide_eq_true (by omega))) rfl rfl rfl ?_
      | refine TL_val (rr_eql rfl rfl (decide_eq_false (by omega))) rfl rfl rfl ?_
      | refine TL_val (rr_neq rfl rfl (decide_eq_true (by omega))) rfl rfl rfl ?_
      | refine TL_val (rr_neq rfl rfl (decide_eq_false (by omega))) rfl rfl rfl ?_
      | refine TL_val (rr_add64 rfl rfl (by omega) (by omega) rfl) rfl rfl rfl ?_
      | refine TL_skip rfl rfl rfl rfl rfl rfl ?_
      | refine TL_gval (rr_move rfl) rfl rfl rfl rfl rfl ?_
      | refine TL_gval (rr_strlen Und.eq rfl) rfl rfl rfl rfl rfl ?_
      | refine TL_gval (rr_leq rfl rfl (decide_eq_true (by omega))) rfl rfl rfl rfl rfl ?_
      | refine TL_gval (rr_leq rfl rfl (decide_eq_false (by omega))) rfl rfl rfl rfl rfl ?_
      | refine TL_gval (rr_neq rfl rfl (decide_eq_true (by omega))) rfl rfl rfl rfl rfl ?_
      | refine TL_gval (rr_neq rfl rfl (decide_eq_false (by omega))) rfl rfl rfl rfl rfl ?_)
    refine TL_new rfl fun g3 => ?_
    refine TL_storeB (i := 3) rfl rfl rfl rfl rfl rfl ?_
    repeat (first
      | refine TL_val (rr_move rfl) rfl rfl rfl ?_
      | refine TL_val (rr_assign rfl) rfl rfl rfl ?_
      | refine TL_nil ?_
      | refine T_seq ?_
      | refine T_region ?_
      | refine T_condT rfl ?_
      | refine T_condF rfl ?_
      | refine T_skip ?_
      | refine T_exit ?_
      | refine T_ret ?_
      | refine T_block ?_
      | refine E_then ?_
      | refine E_thenX ?_
      | refine E_thenR ?_
      | refine E_blockN ?_
      | refine E_blockR ?_
      | refine E_blockX ?_
      | refine E_blockO rfl ?_
      | refine TL_val (rr_extract rfl rfl) rfl rfl rfl ?_
      | refine TL_val (rr_pickT rfl rfl) rfl rfl rfl ?_
      | refine TL_val (rr_pickF rfl rfl) rfl rfl rfl ?_
      | refine TL_val (rr_strlen Und.eq rfl) rfl rfl rfl ?_
      | refine TL_val (rr_len Und.eq rfl) rfl rfl rfl ?_
      | refine TL_val (rr_lss rfl rfl (decide_eq_true (by omega))) rfl rfl rfl ?_
      | refine TL_val (rr_lss rfl rfl (decide_eq_false (by omega))) rfl rfl rfl ?_
      | refine TL_val (rr_eql rfl rfl (decide_eq_true (by omega))) rfl rfl rfl ?_
      | refine TL_val (rr_eql rfl rfl (decide_eq_false (by omega))) rfl rfl rfl ?_
      | refine TL_val (rr_neq rfl rfl (decide_eq_true (by omega))) rfl rfl rfl ?_
      | refine TL_val (rr_neq rfl rfl (decide_eq_false (by omega))) rfl rfl rfl ?_
      | refine TL_val (rr_add64 rfl rfl (by omega) (by omega) rfl) rfl rfl rfl ?_
      | refine TL_skip rfl rfl rfl rfl rfl rfl ?_
      | refine TL_gval (rr_move rfl) rfl rfl rfl rfl rfl ?_
      | refine TL_gval (rr_strlen Und.eq rfl) rfl rfl rfl rfl rfl ?_
      | refine TL_gval (rr_leq rfl rfl (decide_eq_true (by omega))) rfl rfl rfl rfl rfl ?_
      | refine TL_gval (rr_leq rfl rfl (decide_eq_false (by omega))) rfl rfl rfl rfl rfl ?_
      | refine TL_gval (rr_neq rfl rfl (decide_eq_true (by omega))) rfl rfl rfl rfl rfl ?_
      | refine TL_gval (rr_neq rfl rfl (decide_eq_false (by omega))) rfl rfl rfl rfl rfl ?_)
    refine T_loop (ι := Nat) (fun j => j ≤ m) (fun j => [(5, str T), (6, v6), (7, v7), (12, .int .i64 (n : Int)), (13, .pointer (some ⟨g3, 0, none⟩)), (14, v'), (15, .int .i64 0), (16, .int .i64 (j : Int)), (17, .int .i64 ((txt (g.take j)).length : Int))]) (fun _ => [rowO 3 1 v6 g.length ((endsOf g).map (.int .i64)), frRow v7 g, rowO 43 3 v' (g.take m).length ((g.take m).flatMap frC), blkO g3 #[str X, .int .i64 0] 47]) (fun j => m - j) 0 (by omega) ⟨rfl, rfl, rfl, rfl, rfl, rfl, rfl, rfl, rfl, trivial⟩ rfl ?_
    rintro j hj
    by_cases c3 : j < m
    · have c4 : j < g.length := by omega
      have hle := (hc2 j c4).2 c3
      refine T_row (i := 0) rfl (by omega) fun g6 cap6 hv6 => ?_
      subst hv6
      have hcell : ((endsOf g).map (Value.int .i64))[0 + j]? = some (.int .i64 ((txt (g.take (j + 1))).length : Int)) := by simp [endsOf, c4]
      repeat (first
        | refine TL_val (rr_move rfl) rfl rfl rfl ?_
        | refine TL_val (rr_assign rfl) rfl rfl rfl ?_
        | refine TL_nil ?_
        | refine T_seq ?_
        | refine T_region ?_
        | refine T_condT rfl ?_
        | refine T_condF rfl ?_
        | refine T_skip ?_
        | refine T_exit ?_
        | refine T_ret ?_
        | refine T_block ?_
        | refine E_then ?_
        | refine E_thenX ?_
        | refine E_thenR ?_
        | refine E_blockN ?_
        | refine E_blockR ?_
        | refine E_blockX ?_
        | refine E_blockO rfl ?_
        | refine TL_val (rr_idx1 Und.eq TyC.ty rfl rfl c4) rfl rfl rfl ?_
        | refine TL_val (rr_load1 TyC.ty rfl (at_row (i := 0) rfl hcell)) rfl rfl rfl ?_
        | refine TL_val (rr_extract rfl rfl) rfl rfl rfl ?_
        | refine TL_val (rr_pickT rfl rfl) rfl rfl rfl ?_
        | refine TL_val (rr_pickF rfl rfl) rfl rfl rfl ?_
        | refine TL_val (rr_strlen Und.eq rfl) rfl rfl rfl ?_
        | refine TL_val (rr_len Und.eq rfl) rfl rfl rfl ?_
        | refine TL_val (rr_lss rfl rfl (decide_eq_true (by omega))) rfl rfl rfl ?_
        | refine TL_val (rr_lss rfl rfl (decide_eq_false (by omega))) rfl rfl rfl ?_
        | refine TL_val (rr_eql rfl rfl (decide_eq_true (by omega))) rfl rfl rfl ?_
        | refine TL_val (rr_eql rfl rfl (decide_eq_false (by omega))) rfl rfl rfl ?_
        | refine TL_val (rr_neq rfl rfl (decide_eq_true (by omega))) rfl rfl rfl ?_
        | refine TL_val (rr_neq rfl rfl (decide_eq_false (by omega))) rfl rfl rfl ?_
        | refine TL_val (rr_add64 rfl rfl (by omega) (by omega) rfl) rfl rfl rfl ?_
        | refine TL_skip rfl rfl rfl rfl rfl rfl ?_
        | refine TL_gval (rr_idx1 Und.eq TyC.ty rfl rfl c4) rfl rfl rfl rfl rfl ?_
        | refine TL_gval (rr_load1 TyC.ty rfl (at_row (i := 0) rfl hcell)) rfl rfl rfl rfl rfl ?_
        | refine TL_gval (rr_move rfl) rfl rfl rfl rfl rfl ?_
        | refine TL_gval (rr_strlen Und.eq rfl) rfl rfl rfl rfl rfl ?_
        | refine TL_gval (rr_leq rfl rfl (decide_eq_true (by omega))) rfl rfl rfl rfl rfl ?_
        | refine TL_gval (rr_leq rfl rfl (decide_eq_false (by omega))) rfl rfl rfl rfl rfl ?_
        | refine TL_gval (rr_neq rfl rfl (decide_eq_true (by omega))) rfl rfl rfl rfl rfl ?_
        | refine TL_gval (rr_neq rfl rfl (decide_eq_false (by omega))) rfl rfl rfl rfl rfl ?_)
      exact E_round (j + 1) (by omega) (by show m - (j + 1) < m - j; omega) ⟨rfl, rfl, rfl, rfl, rfl, rfl, rfl, rfl, rfl, trivial⟩ rfl
    · obtain rfl : j = m := by omega
      refine T_sl (sl_row (i := 1) rfl) fun b7 cap7 hv7 hc7 => ?_
      subst hv7
      have hjc : j ≤ cap7 := by omega
      have hw1 := fun w => frWrite_calls (1, 0, [97]) w
      rw [show writeFr (1, 0, [97]) = (wrL (1, 0, [97]), 0) from by unfold writeFr; rw [if_neg (by decide)]] at hw1
      have h97 : (wrL (1, 0, [97]))[(4 : Int).toNat]? = some 97 := rfl
      have hl9 : (wrL (1, 0, [97])).length = 9 := wrL_length _
      dsimp only at hw1
      generalize wrL (1, 0, [97]) = S9 at *
      have heqf : ∀ w', Mem w [rowO 3 1 v6 g.length ((endsOf g).map (.int .i64)), frRow (.slice b7 g.length cap7) g, rowO 43 3 v' (g.take j).length ((g.take j).flatMap frC), blkO g3 #[str X, .int .i64 0] 47] w' → Calls Try.prog 25 #[v', .slice b7 j cap7] w' (Meets (ret (.bool true)) w') := fun w' hm => by
        have h := equalFr_calls v' (.slice b7 j cap7) (g.take j) (g.take j) w' (sl_row (i := 2) rfl w' hm) (sl_pre (sl_row (i := 1) rfl w' hm) hc1)
        rw [decide_eq_true rfl] at h
        exact h
      have heqi : ∀ w, (Op.equalIn 10000 47 (.agg #[str X, .int .i64 0]) (.agg #[str ((T.drop (txt (g.take j)).length).take (n - (txt (g.take j)).length)), .int .i64 0])).run Try.prog w = .ok true w := fun w => by rw [hX]; simpa using eq_in X X 0 0 w
      by_cases c5 : j < g.length
      · have h3 := hc2 j c5
        have hgt : n < (txt (g.take (j + 1))).length := by
          have : ¬ (txt (g.take (j + 1))).length ≤ n := fun h4 => by have := h3.1 h4; omega
          omega
        refine T_row (i := 0) rfl (by omega) fun g6 cap6 hv6 => ?_
        subst hv6
        have hcell : ((endsOf g).map (Value.int .i64))[0 + j]? = some (.int .i64 ((txt (g.take (j + 1))).length : Int)) := by simp [endsOf, c5]
        repeat (first
          | refine TL_val (rr_move rfl) rfl rfl rfl ?_
          | refine TL_val (rr_assign rfl) rfl rfl rfl ?_
          | refine TL_nil ?_
          | refine T_seq ?_
          | refine T_region ?_
          | refine T_condT rfl ?_
          | refine T_condF rfl ?_
          | refine T_skip ?_
          | refine T_exit ?_
          | refine T_ret ?_
          | refine T_block ?_
          | refine E_then ?_
          | refine E_thenX ?_
          | refine E_thenR ?_
          | refine E_blockN ?_
          | refine E_blockR ?_
          | refine E_blockX ?_
          | refine E_blockO rfl ?_
          | refine TL_val (rr_idx1 Und.eq TyC.ty rfl rfl c5) rfl rfl rfl ?_
          | refine TL_val (rr_load1 TyC.ty rfl (at_row (i := 0) rfl hcell)) rfl rfl rfl ?_
          | refine TL_val (rr_build rfl build_fr1) rfl rfl rfl ?_
          | refine TL_val (rr_extract rfl rfl) rfl rfl rfl ?_
          | refine TL_val (rr_pickT rfl rfl) rfl rfl rfl ?_
          | refine TL_val (rr_pickF rfl rfl) rfl rfl rfl ?_
          | refine TL_val (rr_strlen Und.eq rfl) rfl rfl rfl ?_
          | refine TL_val (rr_len Und.eq rfl) rfl rfl rfl ?_
          | refine TL_val (rr_lss rfl rfl (decide_eq_true (by omega))) rfl rfl rfl ?_
          | refine TL_val (rr_lss rfl rfl (decide_eq_false (by omega))) rfl rfl rfl ?_
          | refine TL_val (rr_eql rfl rfl (decide_eq_true (by omega))) rfl rfl rfl ?_
          | refine TL_val (rr_eql rfl rfl (decide_eq_false (by omega))) rfl rfl rfl ?_
          | refine TL_val (rr_neq rfl rfl (decide_eq_true (by omega))) rfl rfl rfl ?_
          | refine TL_val (rr_neq rfl rfl (decide_eq_false (by omega))) rfl rfl rfl ?_
          | refine TL_val (rr_add64 rfl rfl (by omega) (by omega) rfl) rfl rfl rfl ?_
          | refine TL_skip rfl rfl rfl rfl rfl rfl ?_
          | refine TL_gval (rr_idx1 Und.eq TyC.ty rfl rfl c5) rfl rfl rfl rfl rfl ?_
          | refine TL_gval (rr_load1 TyC.ty rfl (at_row (i := 0) rfl hcell)) rfl rfl rfl rfl rfl ?_
          | refine TL_gval (rr_build rfl build_fr1) rfl rfl rfl rfl rfl ?_
          | refine TL_gval (rr_move rfl) rfl rfl rfl rfl rfl ?_
          | refine TL_gval (rr_strlen Und.eq rfl) rfl rfl rfl rfl rfl ?_
          | refine TL_gval (rr_leq rfl rfl (decide_eq_true (by omega))) rfl rfl rfl rfl rfl ?_
          | refine TL_gval (rr_leq rfl rfl (decide_eq_false (by omega))) rfl rfl rfl rfl rfl ?_
          | refine TL_gval (rr_neq rfl rfl (decide_eq_true (by omega))) rfl rfl rfl rfl rfl ?_
          | refine TL_gval (rr_neq rfl rfl (decide_eq_false (by omega))) rfl rfl rfl rfl rfl ?_)
        refine TL_call (he1 EntersC.en rfl rfl) (fun w hm => hw1 _) rfl rfl rfl ?_
        intro _ _
        repeat (first
          | refine TL_val (rr_move rfl) rfl rfl rfl ?_
          | refine TL_val (rr_assign rfl) rfl rfl rfl ?_
          | refine TL_nil ?_
          | refine T_seq ?_
          | refine T_region ?_
          | refine T_condT rfl ?_
          | refine T_condF rfl ?_
          | refine T_skip ?_
          | refine T_exit ?_
          | refine T_ret ?_
          | refine T_block ?_
          | refine E_then ?_
          | refine E_thenX ?_
          | refine E_thenR ?_
          | refine E_blockN ?_
          | refine E_blockR ?_
          | refine E_blockX ?_
          | refine E_blockO rfl ?_
          | refine TL_val (rr_neq rfl rfl (decide_eq_false (by decide))) rfl rfl rfl ?_
          | refine TL_val (rr_extract rfl rfl) rfl rfl rfl ?_
          | refine TL_val (rr_pickT rfl rfl) rfl rfl rfl ?_
          | refine TL_val (rr_pickF rfl rfl) rfl rfl rfl ?_
          | refine TL_val (rr_strlen Und.eq rfl) rfl rfl rfl ?_
          | refine TL_val (rr_len Und.eq rfl) rfl rfl rfl ?_
          | refine TL_val (rr_lss rfl rfl (decide_eq_true (by omega))) rfl rfl rfl ?_
          | refine TL_val (rr_lss rfl rfl (decide_eq_false (by omega))) rfl rfl rfl ?_
          | refine TL_val (rr_eql rfl rfl (decide_eq_true (by omega))) rfl rfl rfl ?_
          | refine TL_val (rr_eql rfl rfl (decide_eq_false (by omega))) rfl rfl rfl ?_
          | refine TL_val (rr_neq rfl rfl (decide_eq_true (by omega))) rfl rfl rfl ?_
          | refine TL_val (rr_neq rfl rfl (decide_eq_false (by omega))) rfl rfl rfl ?_
          | refine TL_val (rr_add64 rfl rfl (by omega) (by omega) rfl) rfl rfl rfl ?_
          | refine TL_skip rfl rfl rfl rfl rfl rfl ?_
          | refine TL_gval (rr_stridx Und.eq rfl rfl (by omega) h97) rfl rfl rfl rfl rfl ?_
          | refine TL_gval (rr_neq rfl rfl (decide_eq_false (by decide))) rfl rfl rfl rfl rfl ?_
          | refine TL_gval (rr_move rfl) rfl rfl rfl rfl rfl ?_
          | refine TL_gval (rr_strlen Und.eq rfl) rfl rfl rfl rfl rfl ?_
          | refine TL_gval (rr_leq rfl rfl (decide_eq_true (by omega))) rfl rfl rfl rfl rfl ?_
          | refine TL_gval (rr_leq rfl rfl (decide_eq_false (by omega))) rfl rfl rfl rfl rfl ?_
          | refine TL_gval (rr_neq rfl rfl (decide_eq_true (by omega))) rfl rfl rfl rfl rfl ?_
          | refine TL_gval (rr_neq rfl rfl (decide_eq_false (by omega))) rfl rfl rfl rfl rfl ?_)
        refine T_draw 18 (List.replicate 18 true) rfl (by kernel_rfl) (by kernel_rfl) (by intro c a d v w h; cases d <;> exact h) ?_
        repeat (first
          | refine TM_val (rr_move rfl) rfl rfl rfl ?_
          | refine TM_val (rr_assign rfl) rfl rfl rfl ?_
          | refine TM_val (rr_slup Und.eq TyC.ty rfl rfl hjc) rfl rfl rfl ?_
          | refine TM_val (rr_extract rfl rfl) rfl rfl rfl ?_
          | refine TM_val (rr_pickT rfl rfl) rfl rfl rfl ?_
          | refine TM_val (rr_pickF rfl rfl) rfl rfl rfl ?_
          | refine TM_val (rr_strlen Und.eq rfl) rfl rfl rfl ?_
          | refine TM_val (rr_len Und.eq rfl) rfl rfl rfl ?_
          | refine TM_val (rr_lss rfl rfl (decide_eq_true (by omega))) rfl rfl rfl ?_
          | refine TM_val (rr_lss rfl rfl (decide_eq_false (by omega))) rfl rfl rfl ?_
          | refine TM_val (rr_eql rfl rfl (decide_eq_true (by omega))) rfl rfl rfl ?_
          | refine TM_val (rr_eql rfl rfl (decide_eq_false (by omega))) rfl rfl rfl ?_
          | refine TM_val (rr_neq rfl rfl (decide_eq_true (by omega))) rfl rfl rfl ?_
          | refine TM_val (rr_neq rfl rfl (decide_eq_false (by omega))) rfl rfl rfl ?_
          | refine TM_val (rr_add64 rfl rfl (by omega) (by omega) rfl) rfl rfl rfl ?_
          | refine TM_skip rfl rfl rfl rfl rfl rfl ?_
          | refine TM_gval (rr_slup Und.eq TyC.ty rfl rfl hjc) rfl rfl rfl rfl rfl ?_
          | refine TM_gval (rr_move rfl) rfl rfl rfl rfl rfl ?_
          | refine TM_gval (rr_strlen Und.eq rfl) rfl rfl rfl rfl rfl ?_
          | refine TM_gval (rr_leq rfl rfl (decide_eq_true (by omega))) rfl rfl rfl rfl rfl ?_
          | refine TM_gval (rr_leq rfl rfl (decide_eq_false (by omega))) rfl rfl rfl rfl rfl ?_
          | refine TM_gval (rr_neq rfl rfl (decide_eq_true (by omega))) rfl rfl rfl rfl rfl ?_
          | refine TM_gval (rr_neq rfl rfl (decide_eq_false (by omega))) rfl rfl rfl rfl rfl ?_
          | refine TM_end ?_)
        refine TM_gcall (he2 EntersC.en rfl rfl rfl) (fun w hm => heqf _ hm) rfl rfl rfl rfl rfl ?_
        repeat (first
          | refine TM_val (rr_move rfl) rfl rfl rfl ?_
          | refine TM_val (rr_assign rfl) rfl rfl rfl ?_
          | refine TM_val (rr_loadB (i := 3) TyC.ty rfl rfl rfl) rfl rfl rfl ?_
          | refine TM_val (rr_strsub Und.eq rfl rfl rfl hfrom hnT) rfl rfl rfl ?_
          | refine TM_val (rr_build rfl (build_inR _)) rfl rfl rfl ?_
          | refine TM_val (rr_extract rfl rfl) rfl rfl rfl ?_
          | refine TM_val (rr_pickT rfl rfl) rfl rfl rfl ?_
          | refine TM_val (rr_pickF rfl rfl) rfl rfl rfl ?_
          | refine TM_val (rr_strlen Und.eq rfl) rfl rfl rfl ?_
          | refine TM_val (rr_len Und.eq rfl) rfl rfl rfl ?_
          | refine TM_val (rr_lss rfl rfl (decide_eq_true (by omega))) rfl rfl rfl ?_
          | refine TM_val (rr_lss rfl rfl (decide_eq_false (by omega))) rfl rfl rfl ?_
          | refine TM_val (rr_eql rfl rfl (decide_eq_true (by omega))) rfl rfl rfl ?_
          | refine TM_val (rr_eql rfl rfl (decide_eq_false (by omega))) rfl rfl rfl ?_
          | refine TM_val (rr_neq rfl rfl (decide_eq_true (by omega))) rfl rfl rfl ?_
          | refine TM_val (rr_neq rfl rfl (decide_eq_false (by omega))) rfl rfl rfl ?_
          | refine TM_val (rr_add64 rfl rfl (by omega) (by omega) rfl) rfl rfl rfl ?_
          | refine TM_skip rfl rfl rfl rfl rfl rfl ?_
          | refine TM_gval (rr_loadB (i := 3) TyC.ty rfl rfl rfl) rfl rfl rfl rfl rfl ?_
          | refine TM_gval (rr_strsub Und.eq rfl rfl rfl hfrom hnT) rfl rfl rfl rfl rfl ?_
          | refine TM_gval (rr_build rfl (build_inR _)) rfl rfl rfl rfl rfl ?_
          | refine TM_gval (rr_aggeq (b := true) rfl rfl (by kernel_rfl) heqi) rfl rfl rfl rfl rfl ?_
          | refine TM_gval (rr_move rfl) rfl rfl rfl rfl rfl ?_
          | refine TM_gval (rr_strlen Und.eq rfl) rfl rfl rfl rfl rfl ?_
          | refine TM_gval (rr_leq rfl rfl (decide_eq_true (by omega))) rfl rfl rfl rfl rfl ?_
          | refine TM_gval (rr_leq rfl rfl (decide_eq_false (by omega))) rfl rfl rfl rfl rfl ?_
          | refine TM_gval (rr_neq rfl rfl (decide_eq_true (by omega))) rfl rfl rfl rfl rfl ?_
          | refine TM_gval (rr_neq rfl rfl (decide_eq_false (by omega))) rfl rfl rfl rfl rfl ?_
          | refine TM_end ?_)
        repeat (first
          | refine TL_val (rr_move rfl) rfl rfl rfl ?_
          | refine TL_val (rr_assign rfl) rfl rfl rfl ?_
          | refine TL_nil ?_
          | refine T_seq ?_
          | refine T_region ?_
          | refine T_condT rfl ?_
          | refine T_condF rfl ?_
          | refine T_skip ?_
          | refine T_exit ?_
          | refine T_ret ?_
          | refine T_block ?_
          | refine E_then ?_
          | refine E_thenX ?_
          | refine E_thenR ?_
          | refine E_blockN ?_
          | refine E_blockR ?_
          | refine E_blockX ?_
          | refine E_blockO rfl ?_
          | refine TL_val (rr_extract rfl rfl) rfl rfl rfl ?_
          | refine TL_val (rr_pickT rfl rfl) rfl rfl rfl ?_
          | refine TL_val (rr_pickF rfl rfl) rfl rfl rfl ?_
          | refine TL_val (rr_strlen Und.eq rfl) rfl rfl rfl ?_
          | refine TL_val (rr_len Und.eq rfl) rfl rfl rfl ?_
          | refine TL_val (rr_lss rfl rfl (decide_eq_true (by omega))) rfl rfl rfl ?_
          | refine TL_val (rr_lss rfl rfl (decide_eq_false (by omega))) rfl rfl rfl ?_
          | refine TL_val (rr_eql rfl rfl (decide_eq_true (by omega))) rfl rfl rfl ?_
          | refine TL_val (rr_eql rfl rfl (decide_eq_false (by omega))) rfl rfl rfl ?_
          | refine TL_val (rr_neq rfl rfl (decide_eq_true (by omega))) rfl rfl rfl ?_
          | refine TL_val (rr_neq rfl rfl (decide_eq_false (by omega))) rfl rfl rfl ?_
          | refine TL_val (rr_add64 rfl rfl (by omega) (by omega) rfl) rfl rfl rfl ?_
          | refine TL_skip rfl rfl rfl rfl rfl rfl ?_
          | refine TL_gval (rr_move rfl) rfl rfl rfl rfl rfl ?_
          | refine TL_gval (rr_strlen Und.eq rfl) rfl rfl rfl rfl rfl ?_
          | refine TL_gval (rr_leq rfl rfl (decide_eq_true (by omega))) rfl rfl rfl rfl rfl ?_
          | refine TL_gval (rr_leq rfl rfl (decide_eq_false (by omega))) rfl rfl rfl rfl rfl ?_
          | refine TL_gval (rr_neq rfl rfl (decide_eq_true (by omega))) rfl rfl rfl rfl rfl ?_
          | refine TL_gval (rr_neq rfl rfl (decide_eq_false (by omega))) rfl rfl rfl rfl rfl ?_)
        exact E_ret1 rfl rfl fun w hm => hm.ret
      · repeat (first
          | refine TL_val (rr_move rfl) rfl rfl rfl ?_
          | refine TL_val (rr_assign rfl) rfl rfl rfl ?_
          | refine TL_nil ?_
          | refine T_seq ?_
          | refine T_region ?_
          | refine T_condT rfl ?_
          | refine T_condF rfl ?_
          | refine T_skip ?_
          | refine T_exit ?_
          | refine T_ret ?_
          | refine T_block ?_
          | refine E_then ?_
          | refine E_thenX ?_
          | refine E_thenR ?_
          | refine E_blockN ?_
          | refine E_blockR ?_
          | refine E_blockX ?_
          | refine E_blockO rfl ?_
          | refine TL_val (rr_rowlen (i := 0) Und.eq rfl rfl) rfl rfl rfl ?_
          | refine TL_val (rr_build rfl build_fr1) rfl rfl rfl ?_
          | refine TL_val (rr_extract rfl rfl) rfl rfl rfl ?_
          | refine TL_val (rr_pickT rfl rfl) rfl rfl rfl ?_
          | refine TL_val (rr_pickF rfl rfl) rfl rfl rfl ?_
          | refine TL_val (rr_strlen Und.eq rfl) rfl rfl rfl ?_
          | refine TL_val (rr_len Und.eq rfl) rfl rfl rfl ?_
          | refine TL_val (rr_lss rfl rfl (decide_eq_true (by omega))) rfl rfl rfl ?_
          | refine TL_val (rr_lss rfl rfl (decide_eq_false (by omega))) rfl rfl rfl ?_
          | refine TL_val (rr_eql rfl rfl (decide_eq_true (by omega))) rfl rfl rfl ?_
          | refine TL_val (rr_eql rfl rfl (decide_eq_false (by omega))) rfl rfl rfl ?_
          | refine TL_val (rr_neq rfl rfl (decide_eq_true (by omega))) rfl rfl rfl ?_
          | refine TL_val (rr_neq rfl rfl (decide_eq_false (by omega))) rfl rfl rfl ?_
          | refine TL_val (rr_add64 rfl rfl (by omega) (by omega) rfl) rfl rfl rfl ?_
          | refine TL_skip rfl rfl rfl rfl rfl rfl ?_
          | refine TL_gval (rr_build rfl build_fr1) rfl rfl rfl rfl rfl ?_
          | refine TL_gval (rr_move rfl) rfl rfl rfl rfl rfl ?_
          | refine TL_gval (rr_strlen Und.eq rfl) rfl rfl rfl rfl rfl ?_
          | refine TL_gval (rr_leq rfl rfl (decide_eq_true (by omega))) rfl rfl rfl rfl rfl ?_
          | refine TL_gval (rr_leq rfl rfl (decide_eq_false (by omega))) rfl rfl rfl rfl rfl ?_
          | refine TL_gval (rr_neq rfl rfl (decide_eq_true (by omega))) rfl rfl rfl rfl rfl ?_
          | refine TL_gval (rr_neq rfl rfl (decide_eq_false (by omega))) rfl rfl rfl rfl rfl ?_)
        refine TL_call (he1 EntersC.en rfl rfl) (fun w hm => hw1 _) rfl rfl rfl ?_
        intro _ _
        repeat (first
          | refine TL_val (rr_move rfl) rfl rfl rfl ?_
          | refine TL_val (rr_assign rfl) rfl rfl rfl ?_
          | refine TL_nil ?_
          | refine T_seq ?_
          | refine T_region ?_
          | refine T_condT rfl ?_
          | refine T_condF rfl ?_
          | refine T_skip ?_
          | refine T_exit ?_
          | refine T_ret ?_
          | refine T_block ?_
          | refine E_then ?_
          | refine E_thenX ?_
          | refine E_thenR ?_
          | refine E_blockN ?_
          | refine E_blockR ?_
          | refine E_blockX ?_
          | refine E_blockO rfl ?_
          | refine TL_val (rr_neq rfl rfl (decide_eq_false (by decide))) rfl rfl rfl ?_
          | refine TL_val (rr_extract rfl rfl) rfl rfl rfl ?_
          | refine TL_val (rr_pickT rfl rfl) rfl rfl rfl ?_
          | refine TL_val (rr_pickF rfl rfl) rfl rfl rfl ?_
          | refine TL_val (rr_strlen Und.eq rfl) rfl rfl rfl ?_
          | refine TL_val (rr_len Und.eq rfl) rfl rfl rfl ?_
          | refine TL_val (rr_lss rfl rfl (decide_eq_true (by omega))) rfl rfl rfl ?_
          | refine TL_val (rr_lss rfl rfl (decide_eq_false (by omega))) rfl rfl rfl ?_
          | refine TL_val (rr_eql rfl rfl (decide_eq_true (by omega))) rfl rfl rfl ?_
          | refine TL_val (rr_eql rfl rfl (decide_eq_false (by omega))) rfl rfl rfl ?_
          | refine TL_val (rr_neq rfl rfl (decide_eq_true (by omega))) rfl rfl rfl ?_
          | refine TL_val (rr_neq rfl rfl (decide_eq_false (by omega))) rfl rfl rfl ?_
          | refine TL_val (rr_add64 rfl rfl (by omega) (by omega) rfl) rfl rfl rfl ?_
          | refine TL_skip rfl rfl rfl rfl rfl rfl ?_
          | refine TL_gval (rr_stridx Und.eq rfl rfl (by omega) h97) rfl rfl rfl rfl rfl ?_
          | refine TL_gval (rr_neq rfl rfl (decide_eq_false (by decide))) rfl rfl rfl rfl rfl ?_
          | refine TL_gval (rr_move rfl) rfl rfl rfl rfl rfl ?_
          | refine TL_gval (rr_strlen Und.eq rfl) rfl rfl rfl rfl rfl ?_
          | refine TL_gval (rr_leq rfl rfl (decide_eq_true (by omega))) rfl rfl rfl rfl rfl ?_
          | refine TL_gval (rr_leq rfl rfl (decide_eq_false (by omega))) rfl rfl rfl rfl rfl ?_
          | refine TL_gval (rr_neq rfl rfl (decide_eq_true (by omega))) rfl rfl rfl rfl rfl ?_
          | refine TL_gval (rr_neq rfl rfl (decide_eq_false (by omega))) rfl rfl rfl rfl rfl ?_)
        refine T_draw 18 (List.replicate 18 true) rfl (by kernel_rfl) (by kernel_rfl) (by intro c a d v w h; cases d <;> exact h) ?_
        repeat (first
          | refine TM_val (rr_move rfl) rfl rfl rfl ?_
          | refine TM_val (rr_assign rfl) rfl rfl rfl ?_
          | refine TM_val (rr_slup Und.eq TyC.ty rfl rfl hjc) rfl rfl rfl ?_
          | refine TM_val (rr_extract rfl rfl) rfl rfl rfl ?_
          | refine TM_val (rr_pickT rfl rfl) rfl rfl rfl ?_
          | refine TM_val (rr_pickF rfl rfl) rfl rfl rfl ?_
          | refine TM_val (rr_strlen Und.eq rfl) rfl rfl rfl ?_
          | refine TM_val (rr_len Und.eq rfl) rfl rfl rfl ?_
          | refine TM_val (rr_lss rfl rfl (decide_eq_true (by omega))) rfl rfl rfl ?_
          | refine TM_val (rr_lss rfl rfl (decide_eq_false (by omega))) rfl rfl rfl ?_
          | refine TM_val (rr_eql rfl rfl (decide_eq_true (by omega))) rfl rfl rfl ?_
          | refine TM_val (rr_eql rfl rfl (decide_eq_false (by omega))) rfl rfl rfl ?_
          | refine TM_val (rr_neq rfl rfl (decide_eq_true (by omega))) rfl rfl rfl ?_
          | refine TM_val (rr_neq rfl rfl (decide_eq_false (by omega))) rfl rfl rfl ?_
          | refine TM_val (rr_add64 rfl rfl (by omega) (by omega) rfl) rfl rfl rfl ?_
          | refine TM_skip rfl rfl rfl rfl rfl rfl ?_
          | refine TM_gval (rr_slup Und.eq TyC.ty rfl rfl hjc) rfl rfl rfl rfl rfl ?_
          | refine TM_gval (rr_move rfl) rfl rfl rfl rfl rfl ?_
          | refine TM_gval (rr_strlen Und.eq rfl) rfl rfl rfl rfl rfl ?_
          | refine TM_gval (rr_leq rfl rfl (decide_eq_true (by omega))) rfl rfl rfl rfl rfl ?_
          | refine TM_gval (rr_leq rfl rfl (decide_eq_false (by omega))) rfl rfl rfl rfl rfl ?_
          | refine TM_gval (rr_neq rfl rfl (decide_eq_true (by omega))) rfl rfl rfl rfl rfl ?_
          | refine TM_gval (rr_neq rfl rfl (decide_eq_false (by omega))) rfl rfl rfl rfl rfl ?_
          | refine TM_end ?_)
        refine TM_gcall (he2 EntersC.en rfl rfl rfl) (fun w hm => heqf _ hm) rfl rfl rfl rfl rfl ?_
        repeat (first
          | refine TM_val (rr_move rfl) rfl rfl rfl ?_
          | refine TM_val (rr_assign rfl) rfl rfl rfl ?_
          | refine TM_val (rr_loadB (i := 3) TyC.ty rfl rfl rfl) rfl rfl rfl ?_
          | refine TM_val (rr_strsub Und.eq rfl rfl rfl hfrom hnT) rfl rfl rfl ?_
          | refine TM_val (rr_build rfl (build_inR _)) rfl rfl rfl ?_
          | refine TM_val (rr_extract rfl rfl) rfl rfl rfl ?_
          | refine TM_val (rr_pickT rfl rfl) rfl rfl rfl ?_
          | refine TM_val (rr_pickF rfl rfl) rfl rfl rfl ?_
          | refine TM_val (rr_strlen Und.eq rfl) rfl rfl rfl ?_
          | refine TM_val (rr_len Und.eq rfl) rfl rfl rfl ?_
          | refine TM_val (rr_lss rfl rfl (decide_eq_true (by omega))) rfl rfl rfl ?_
          | refine TM_val (rr_lss rfl rfl (decide_eq_false (by omega))) rfl rfl rfl ?_
          | refine TM_val (rr_eql rfl rfl (decide_eq_true (by omega))) rfl rfl rfl ?_
          | refine TM_val (rr_eql rfl rfl (decide_eq_false (by omega))) rfl rfl rfl ?_
          | refine TM_val (rr_neq rfl rfl (decide_eq_true (by omega))) rfl rfl rfl ?_
          | refine TM_val (rr_neq rfl rfl (decide_eq_false (by omega))) rfl rfl rfl ?_
          | refine TM_val (rr_add64 rfl rfl (by omega) (by omega) rfl) rfl rfl rfl ?_
          | refine TM_skip rfl rfl rfl rfl rfl rfl ?_
          | refine TM_gval (rr_loadB (i := 3) TyC.ty rfl rfl rfl) rfl rfl rfl rfl rfl ?_
          | refine TM_gval (rr_strsub Und.eq rfl rfl rfl hfrom hnT) rfl rfl rfl rfl rfl ?_
          | refine TM_gval (rr_build rfl (build_inR _)) rfl rfl rfl rfl rfl ?_
          | refine TM_gval (rr_aggeq (b := true) rfl rfl (by kernel_rfl) heqi) rfl rfl rfl rfl rfl ?_
          | refine TM_gval (rr_move rfl) rfl rfl rfl rfl rfl ?_
          | refine TM_gval (rr_strlen Und.eq rfl) rfl rfl rfl rfl rfl ?_
          | refine TM_gval (rr_leq rfl rfl (decide_eq_true (by omega))) rfl rfl rfl rfl rfl ?_
          | refine TM_gval (rr_leq rfl rfl (decide_eq_false (by omega))) rfl rfl rfl rfl rfl ?_
          | refine TM_gval (rr_neq rfl rfl (decide_eq_true (by omega))) rfl rfl rfl rfl rfl ?_
          | refine TM_gval (rr_neq rfl rfl (decide_eq_false (by omega))) rfl rfl rfl rfl rfl ?_
          | refine TM_end ?_)
        repeat (first
          | refine TL_val (rr_move rfl) rfl rfl rfl ?_
          | refine TL_val (rr_assign rfl) rfl rfl rfl ?_
          | refine TL_nil ?_
          | refine T_seq ?_
          | refine T_region ?_
          | refine T_condT rfl ?_
          | refine T_condF rfl ?_
          | refine T_skip ?_
          | refine T_exit ?_
          | refine T_ret ?_
          | refine T_block ?_
          | refine E_then ?_
          | refine E_thenX ?_
          | refine E_thenR ?_
          | refine E_blockN ?_
          | refine E_blockR ?_
          | refine E_blockX ?_
          | refine E_blockO rfl ?_
          | refine TL_val (rr_extract rfl rfl) rfl rfl rfl ?_
          | refine TL_val (rr_pickT rfl rfl) rfl rfl rfl ?_
          | refine TL_val (rr_pickF rfl rfl) rfl rfl rfl ?_
          | refine TL_val (rr_strlen Und.eq rfl) rfl rfl rfl ?_
          | refine TL_val (rr_len Und.eq rfl) rfl rfl rfl ?_
          | refine TL_val (rr_lss rfl rfl (decide_eq_true (by omega))) rfl rfl rfl ?_
          | refine TL_val (rr_lss rfl rfl (decide_eq_false (by omega))) rfl rfl rfl ?_
          | refine TL_val (rr_eql rfl rfl (decide_eq_true (by omega))) rfl rfl rfl ?_
          | refine TL_val (rr_eql rfl rfl (decide_eq_false (by omega))) rfl rfl rfl ?_
          | refine TL_val (rr_neq rfl rfl (decide_eq_true (by omega))) rfl rfl rfl ?_
          | refine TL_val (rr_neq rfl rfl (decide_eq_false (by omega))) rfl rfl rfl ?_
          | refine TL_val (rr_add64 rfl rfl (by omega) (by omega) rfl) rfl rfl rfl ?_
          | refine TL_skip rfl rfl rfl rfl rfl rfl ?_
          | refine TL_gval (rr_move rfl) rfl rfl rfl rfl rfl ?_
          | refine TL_gval (rr_strlen Und.eq rfl) rfl rfl rfl rfl rfl ?_
          | refine TL_gval (rr_leq rfl rfl (decide_eq_true (by omega))) rfl rfl rfl rfl rfl ?_
          | refine TL_gval (rr_leq rfl rfl (decide_eq_false (by omega))) rfl rfl rfl rfl rfl ?_
          | refine TL_gval (rr_neq rfl rfl (decide_eq_true (by omega))) rfl rfl rfl rfl rfl ?_
          | refine TL_gval (rr_neq rfl rfl (decide_eq_false (by omega))) rfl rfl rfl rfl rfl ?_)
        exact E_ret1 rfl rfl fun w hm => hm.ret
end Go.Proofs.Ytnooleopmlijeaa.frameTorn
