/- Grammars of one's own (brackets); what facts.Begin computes. -/
import Derived.Test.YtnicebdkejkieaaFactsO
import Derived.Test.YtnicebdkejkieaaFactsP
import Derived.Test.YtnicebdkejkieaaGramM
namespace Go.Proofs.Ytnicebdkejkieaa.eng
open Go.RowKit kit mix gramL factsL
section
variable {P : Program} {n : Nat} {W : Base} {fr : Fr} {L : List Own} {dst : Option Tmp} {ty : TypeId} {pos : String} {after : Array Edge} {guard : Option (Nat × Bool)} {t u : TypeId} {x y : Operand} {k : IntKind} {m m' r : Int}
theorem rr_andn (hx : ev fr x = some (.int k m)) (hy : ev fr y = some (.int k m')) (h : bits .andNot k m m' = r) : RR P n W ⟨dst, .binOp .andNot t x y u, ty, pos, after, guard⟩ fr L (.int k r) := rr_bits (.inr (.inr (.inr rfl))) hx hy h
end
theorem bits_andn {x y : Nat} (hy : y < 18446744073709551616) (h : x ||| y = y) : bits .andNot .u64 (x : Int) (y : Int) = 0 := by
  show IntKind.u64.wrap ((BitVec.ofInt 64 (x : Int) &&& ~~~ BitVec.ofInt 64 (y : Int)).toNat : Int) = 0
  have e : BitVec.ofInt 64 (x : Int) &&& ~~~ BitVec.ofInt 64 (y : Int) = 0#64 := by
    rw [BitVec.ofInt_natCast, BitVec.ofInt_natCast]
    ext i hi
    have h2 := congrArg (fun z => Nat.testBit z i) h
    simp only [Nat.testBit_or] at h2
    simp only [BitVec.getElem_and, BitVec.getElem_not, BitVec.getElem_zero]
    rw [← BitVec.getLsbD_eq_getElem, ← BitVec.getLsbD_eq_getElem, BitVec.getLsbD_ofNat, BitVec.getLsbD_ofNat]
    simp only [hi, decide_true, Bool.true_and]
    cases h3 : x.testBit i <;> cases h4 : y.testBit i <;> simp_all
  rw [e]; rfl
theorem meets_of {ι : Type} {S : Spec ι} {w w' : World} {e : Ending} (h : MeetsB S w e w') : Meets S w e w' := let ⟨x, h1, h2, h3⟩ := h; ⟨x, h1, h2, h3.below, h3.newer⟩
theorem slf_one {α : Type} {s : Shp α} {F : Nat → Prop} {w : World} {v : Value} {l : List α} (h : SlF s F w v l) : v.oneCell' = true := by
  obtain ⟨b, c, rfl, _⟩ := h; rfl
theorem prodsO_gra {F : Nat → Prop} {vp : Value} {l : List gramL.Prod} {w : World} {t n : Int} (ht : kit.okI64 t) (hn : kit.okI64 n) (h : (prodsO F vp l).holds w) : GraR (fun k => k < w.heap.size) w (graV t n vp) ⟨t, n, l⟩ := by
  obtain ⟨⟨v', hv, h1⟩, h2⟩ := h
  simp only [List.cons.injEq, and_true] at hv
  subst hv
  exact ⟨vp, rfl, h1.mono h2, ht, hn⟩
theorem build_sym (k q : Int) (w : World) : (Instr.build 58 #[(0, .int .i64 k), (1, .int .i64 q)]).run Try.prog w = .ok (.agg #[.int .i64 k, .int .i64 q]) w := by
  go_simp
theorem non_calls (q : Int) (w : World) : Calls Try.prog 34 #[.int .i64 q] w (Meets (ret (.agg (symC (2, q)).toArray)) w) := by
  refine enter (args := [.int .i64 q]) (n := 5) Try.func34 rfl rfl rfl ?_
  refine T_seq (T_region (TL_new rfl fun g => ?_))
  repeat (first
    | refine qv rfl (qp rfl) rfl rfl ?_ | refine TL_nil ?_ | refine T_seq ?_ | refine T_region ?_ | refine T_ret ?_ | refine E_then ?_ | refine E_thenR ?_
    | refine qv rfl (rr_build rfl (build_sym _ _)) rfl rfl ?_)
  refine TL_storeB (i := 0) rfl rfl rfl rfl rfl rfl ?_
  repeat (first
    | refine qv rfl (qp rfl) rfl rfl ?_ | refine TL_nil ?_ | refine T_seq ?_ | refine T_region ?_ | refine T_ret ?_ | refine E_then ?_ | refine E_thenR ?_)
  exact E_retc1 (i := 0) rfl rfl rfl rfl fun w hm => hm.ret
theorem term_calls (q : Int) (w : World) : Calls Try.prog 35 #[.int .i64 q] w (Meets (ret (.agg (symC (1, q)).toArray)) w) := by
  refine enter (args := [.int .i64 q]) (n := 5) Try.func35 rfl rfl rfl ?_
  refine T_seq (T_region (TL_new rfl fun g => ?_))
  repeat (first
    | refine qv rfl (qp rfl) rfl rfl ?_ | refine TL_nil ?_ | refine T_seq ?_ | refine T_region ?_ | refine T_ret ?_ | refine E_then ?_ | refine E_thenR ?_
    | refine qv rfl (rr_build rfl (build_sym _ _)) rfl rfl ?_)
  refine TL_storeB (i := 0) rfl rfl rfl rfl rfl rfl ?_
  repeat (first
    | refine qv rfl (qp rfl) rfl rfl ?_ | refine TL_nil ?_ | refine T_seq ?_ | refine T_region ?_ | refine T_ret ?_ | refine E_then ?_ | refine E_thenR ?_)
  exact E_retc1 (i := 0) rfl rfl rfl rfl fun w hm => hm.ret
def brkP : List gramL.Prod := [(0, []), (0, [(1, 0), (2, 0), (1, 1), (2, 0)])]
def brkG : Gram := ⟨2, 1, brkP⟩
def gramS (g : Gram) : Spec (Value × (Nat → Prop)) := ⟨fun _ => True, fun x => graV g.terms g.nons x.1, fun x => [prodsO x.2 x.1 g.prods]⟩
theorem build_prod0 (w : World) : (Instr.build 36 (#[] : Array (Nat × Value))).run Try.prog w = .ok (.agg #[.int .i64 0, .slice none 0 0]) w := by
  go_simp
theorem build_prod1 (b : Option Addr) (m c : Nat) (w : World) : (Instr.build 36 #[(1, .slice b m c)]).run Try.prog w = .ok (.agg #[.int .i64 0, .slice b m c]) w := by
  go_simp
theorem build_gra3 (t n : Int) (b : Option Addr) (m c : Nat) (w : World) : (Instr.build 24 #[(0, .int .i64 t), (1, .int .i64 n), (2, .slice b m c)]).run Try.prog w = .ok (.agg #[.int .i64 t, .int .i64 n, .slice b m c]) w := by
  go_simp
theorem rd_blk {w : World} {g : Nat} {cs : Array Value} {T : TypeId} (h : w.heap[g]? = some (.cells cs T (0, 0))) {off : Nat} {xs : List Value} (hx : ∀ (j : Nat) u, xs[j]? = some u → cs[off + j]? = some u) : Rd w g off xs := fun j u hj => by
  rw [cell_of_row w g (off + j) _ _ _ h]; exact hx j u hj
theorem ok0 : kit.okI64 0 := ⟨by decide, by decide⟩
theorem ok1 : kit.okI64 1 := ⟨by decide, by decide⟩
theorem ok2 : kit.okI64 2 := ⟨by decide, by decide⟩
theorem brk_slf {w : World} {g h : Nat} {T T' : TypeId} (hg : w.heap[g]? = some (.cells #[.int .i64 1, .int .i64 0, .int .i64 2, .int .i64 0, .int .i64 1, .int .i64 1, .int .i64 2, .int .i64 0] T (0, 0))) (hh : w.heap[h]? = some (.cells #[.int .i64 0, .slice none 0 0, .int .i64 0, .slice (some ⟨g, 0, none⟩) 4 4] T' (0, 0))) :
    SlF prodS (fun k => k = g ∨ k = h) w (.slice (some ⟨h, 0, none⟩) 2 2) brkP := by
  refine ⟨_, _, rfl, Nat.le_refl _, by decide, fun _ => ⟨h, 0, rfl, .inr rfl, fun i hi => ?_⟩⟩
  match i, hi with
  | 0, _ => exact ⟨[.int .i64 0, .slice none 0 0], ⟨[.int .i64 0], [.slice none 0 0], rfl, ⟨rfl, ok0⟩, _, rfl, SlF.nil⟩, rd_blk hh fun j u hj => by match j, hj with | 0, hj => exact hj | 1, hj => exact hj⟩
  | 1, _ =>
    refine ⟨[.int .i64 0, .slice (some ⟨g, 0, none⟩) 4 4], ⟨[.int .i64 0], [.slice (some ⟨g, 0, none⟩) 4 4], rfl, ⟨rfl, ok0⟩, _, rfl, ?_⟩, rd_blk hh fun j u hj => by match j, hj with | 0, hj => exact hj | 1, hj => exact hj⟩
    refine ⟨_, _, rfl, Nat.le_refl _, by decide, fun _ => ⟨g, 0, rfl, .inl rfl, fun i hi => ?_⟩⟩
    match i, hi with
    | 0, _ => exact ⟨_, ⟨rfl, ok1, ok0⟩, rd_blk hg fun j u hj => by match j, hj with | 0, hj => exact hj | 1, hj => exact hj⟩
    | 1, _ => exact ⟨_, ⟨rfl, ok2, ok0⟩, rd_blk hg fun j u hj => by match j, hj with | 0, hj => exact hj | 1, hj => exact hj⟩
    | 2, _ => exact ⟨_, ⟨rfl, ok1, ok1⟩, rd_blk hg fun j u hj => by match j, hj with | 0, hj => exact hj | 1, hj => exact hj⟩
    | 3, _ => exact ⟨_, ⟨rfl, ok2, ok0⟩, rd_blk hg fun j u hj => by match j, hj with | 0, hj => exact hj | 1, hj => exact hj⟩
attribute [local irreducible] Instr.build in
set_option maxHeartbeats 1000000 in
theorem brackets_calls (w : World) : Calls Try.prog 25 #[] w (Meets (gramS brkG) w) := by
  refine enter (args := []) (n := 10) Try.func25 rfl rfl rfl ?_
  refine T_seq (T_region (TL_new rfl fun g => ?_))
  repeat (first
    | refine TL_nil ?_ | refine T_seq ?_ | refine T_region ?_ | refine T_ret ?_ | refine E_then ?_ | refine E_thenR ?_
    | refine qv rfl (rr_build rfl build_prod0) rfl rfl ?_)
  refine TL_call (he1 EntersC.en rfl rfl) (fun w hm => term_calls 0 w) rfl rfl rfl ?_
  intro _ _
  repeat (first
    | refine TL_nil ?_ | refine T_seq ?_ | refine T_region ?_ | refine T_ret ?_ | refine E_then ?_ | refine E_thenR ?_)
  refine TL_call (he1 EntersC.en rfl rfl) (fun w hm => non_calls 0 w) rfl rfl rfl ?_
  intro _ _
  repeat (first
    | refine TL_nil ?_ | refine T_seq ?_ | refine T_region ?_ | refine T_ret ?_ | refine E_then ?_ | refine E_thenR ?_)
  refine TL_call (he1 EntersC.en rfl rfl) (fun w hm => term_calls 1 w) rfl rfl rfl ?_
  intro _ _
  repeat (first
    | refine TL_nil ?_ | refine T_seq ?_ | refine T_region ?_ | refine T_ret ?_ | refine E_then ?_ | refine E_thenR ?_)
  refine TL_call (he1 EntersC.en rfl rfl) (fun w hm => non_calls 0 w) rfl rfl rfl ?_
  intro _ _
  conv => arg 8; simp only [zA, zB, zC, zD, zE, zF, zG, zH, zI, rowS, ret, id_eq]
  refine TL_litN [.agg (symC (1, 0)).toArray, .agg (symC (2, 0)).toArray, .agg (symC (1, 1)).toArray, .agg (symC (2, 0)).toArray] rfl rfl rfl (by intro v hv; simp at hv; rcases hv with rfl | rfl | rfl | rfl <;> rfl) rfl rfl rfl fun g6 => ?_
  repeat (first
    | refine TL_nil ?_ | refine T_seq ?_ | refine T_region ?_ | refine T_ret ?_ | refine E_then ?_ | refine E_thenR ?_
    | refine qv rfl (rr_build rfl (build_prod1 _ _ _)) rfl rfl ?_)
  refine TL_litN [.agg #[.int .i64 0, .slice none 0 0], .agg #[.int .i64 0, .slice (some ⟨g6, 0, none⟩) 4 4]] rfl rfl rfl (by intro v hv; simp at hv; rcases hv with rfl | rfl <;> rfl) rfl rfl rfl fun g8 => ?_
  conv => arg 8; simp only [zA, zB, zC, zD, zE, zF, zG, zH, zI, rowS, ret, id_eq]
  repeat (first
    | refine TL_nil ?_ | refine T_seq ?_ | refine T_region ?_ | refine T_ret ?_ | refine E_then ?_ | refine E_thenR ?_
    | refine qv rfl (rr_build rfl (build_gra3 _ _ _ _ _)) rfl rfl ?_)
  refine TL_storeB (i := 0) rfl rfl rfl rfl rfl rfl ?_
  conv => arg 8; simp only [zA, zB, zC, zD, zE, zF, zG, zH, zI, rowS, ret, id_eq]
  repeat (first
    | refine TL_nil ?_ | refine T_seq ?_ | refine T_region ?_ | refine T_ret ?_ | refine E_then ?_ | refine E_thenR ?_)
  refine E_merge (prodsO (fun k => k = g6 ∨ k = g8) (.slice (some ⟨g8, 0, none⟩) 2 2) brkP) 1 2 [0] (by decide) rfl rfl rfl (fun k hk => hk.elim (fun h => by cases h) fun h => h.elim (fun h => .inl (.inl (by rw [h]; rfl))) fun h => .inr (.inl (by rw [h]; rfl))) (fun w h6 h8 => ?_) ?_
  · refine ⟨⟨_, rfl, brk_slf h6 h8⟩, fun k hk => ?_⟩
    rcases hk with rfl | rfl
    · exact (Array.getElem?_eq_some_iff.1 (show w.heap[k]? = some _ from h6)).1
    · exact (Array.getElem?_eq_some_iff.1 (show w.heap[k]? = some _ from h8)).1
  exact E_retc1 (i := 0) rfl rfl rfl rfl fun w hm => hm.meets (S := gramS brkG) (.slice (some ⟨g8, 0, none⟩) 2 2, fun k => k = g6 ∨ k = g8) trivial [1] (by decide) rfl
theorem build_fac0 (w : World) : (Instr.build 63 (#[] : Array (Nat × Value))).run Try.prog w = .ok (.agg #[.slice none 0 0, .slice none 0 0, .slice none 0 0, .slice none 0 0, .slice none 0 0]) w := by
  go_simp
/-- of a grammar that is none -/
theorem ofE_calls (v : Value) (g : Gram) (w : World) (h : GraR (fun k => k < w.heap.size) w v g) (h0 : checkG g ≠ 0) :
    Calls Try.prog 36 #[v] w (Meets (ret (.tuple #[facV (.slice none 0 0) (.slice none 0 0) (.slice none 0 0) (.slice none 0 0) (.slice none 0 0), .int .i64 (checkG g)])) w) := by
  have hck := fun w' (hg : Gr w w') => checkG_calls v g w' (h.gr hg)
  obtain ⟨vp, rfl, h1, _⟩ := h
  obtain ⟨bp, cp, rfl, hcp, hmp, hrp⟩ := h1
  generalize checkG g = e at *
  obtain ⟨t, n, prods⟩ := g
  dsimp only at *
  refine enter (args := [graV t n (.slice bp prods.length cp)]) (n := 39) Try.func36 rfl rfl rfl ?_
  refine T_seq (T_region (TL_box rfl rfl rfl fun g1 => TL_new rfl fun g2 => ?_))
  repeat (first
    | refine qv rfl (qp rfl) rfl rfl ?_ | refine TL_nil ?_ | refine T_seq ?_ | refine T_region ?_ | refine qcT rfl ?_ | refine qcF rfl ?_ | refine T_skip ?_
    | refine T_exit ?_ | refine T_ret ?_ | refine T_block ?_ | refine E_then ?_ | refine E_thenX ?_ | refine E_thenR ?_ | refine E_blockN ?_
    | refine E_blockR ?_ | refine E_blockX ?_ | refine E_blockO rfl ?_ | refine qv rfl (rr_loadB (i := 0) TyC.ty rfl rfl rfl) rfl rfl ?_
    | refine qv rfl (qfld FldC.fld rfl rfl) rfl rfl ?_ | refine qv rfl (rr_neq rfl rfl (qT (by omega))) rfl rfl ?_
    | refine qv rfl (rr_neq rfl rfl (qF (by omega))) rfl rfl ?_)
  refine TL_call (he1 EntersC.en rfl rfl) (fun w hm => hck _ hm.below) rfl rfl rfl ?_
  intro _ _
  conv => arg 8; simp only [zA, zB, zC, zD, zE, zF, zG, zH, zI, rowS, ret, id_eq]
  repeat (first
    | refine qv rfl (qp rfl) rfl rfl ?_ | refine TL_nil ?_ | refine T_seq ?_ | refine T_region ?_ | refine qcT rfl ?_ | refine qcF rfl ?_ | refine T_skip ?_
    | refine T_exit ?_ | refine T_ret ?_ | refine T_block ?_ | refine E_then ?_ | refine E_thenX ?_ | refine E_thenR ?_ | refine E_blockN ?_
    | refine E_blockR ?_ | refine E_blockX ?_ | refine E_blockO rfl ?_ | refine qv rfl (rr_build rfl build_fac0) rfl rfl ?_
    | refine qv rfl (qfld FldC.fld rfl rfl) rfl rfl ?_ | refine qv rfl (rr_neq rfl rfl (qT (by omega))) rfl rfl ?_
    | refine qv rfl (rr_neq rfl rfl (qF (by omega))) rfl rfl ?_)
  refine TL_storeB (i := 1) rfl rfl rfl rfl rfl rfl ?_
  repeat (first
    | refine qv rfl (qp rfl) rfl rfl ?_ | refine TL_nil ?_ | refine T_seq ?_ | refine T_region ?_ | refine qcT rfl ?_ | refine qcF rfl ?_ | refine T_skip ?_
    | refine T_exit ?_ | refine T_ret ?_ | refine T_block ?_ | refine E_then ?_ | refine E_thenX ?_ | refine E_thenR ?_ | refine E_blockN ?_
    | refine E_blockR ?_ | refine E_blockX ?_ | refine E_blockO rfl ?_ | refine qv rfl (qfld FldC.fld rfl rfl) rfl rfl ?_
    | refine qv rfl (rr_neq rfl rfl (qT (by omega))) rfl rfl ?_ | refine qv rfl (rr_neq rfl rfl (qF (by omega))) rfl rfl ?_)
  exact E_retc2 (i := 1) rfl rfl rfl rfl rfl fun w hm => hm.ret
end Go.Proofs.Ytnicebdkejkieaa.eng
