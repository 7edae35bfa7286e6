/- The walk of ClassSets, on the new engine. -/
import Derived.Test.YtbiacehgfmgfdaaDoorClass
import Derived.Test.YtbiacehgfmgfdaaDoorMgB
import Derived.Test.YtbiacehgfmgfdaaDoorFast
import Derived.Test.YtbiacehgfmgfdaaDoorMgA
import Derived.ChangeKeysEq
namespace Go.Proofs.YtbiacehgfmgfdaaDoor.classSets
open Go.RowKit kit mix classL eng
theorem eq_cls (x y : C4) (w : World) : (Op.equalIn 10000 27 (.agg #[v64 x.a, v64 x.b, v64 x.c, v64 x.d]) (.agg #[v64 y.a, v64 y.b, v64 y.c, v64 y.d])).run Tryd.prog w = .ok (decide (x = y)) w := by
  have e : (Op.equalIn 10000 27 (.agg #[v64 x.a, v64 x.b, v64 x.c, v64 x.d]) (.agg #[v64 y.a, v64 y.b, v64 y.c, v64 y.d])).run Tryd.prog w = .ok ((n64 x.a == n64 y.a) && ((n64 x.b == n64 y.b) && ((n64 x.c == n64 y.c) && (n64 x.d == n64 y.d)))) w := by
    unfold v64
    rw [run_equalIn_array (P := Tryd.prog) w 9999 (n := 4) (e := 25) _ _ rfl rfl]
    have h1 : Tryd.prog.cellsOf 25 = 1 := rfl
    simp [Op.eqItems, go_sem, List.range_succ_eq_map, h1]
    by_cases e1 : n64 x.a = n64 y.a <;> by_cases e2 : n64 x.b = n64 y.b <;> by_cases e3 : n64 x.c = n64 y.c <;> by_cases e4 : n64 x.d = n64 y.d <;> simp [e1, e2, e3, e4]
  rw [e]
  congr 1
  by_cases h : x = y
  · subst h; simp
  · rw [decide_eq_false h]
    simp only [n64_eq, Bool.and_eq_false_iff]
    by_cases h1 : x.a = y.a
    · by_cases h2 : x.b = y.b
      · by_cases h3 : x.c = y.c
        · by_cases h4 : x.d = y.d
          · exact absurd (C4.ext' h1 h2 h3 h4) h
          · simp [h4]
        · simp [h3]
      · simp [h2]
    · simp [h1]
theorem joinE (x y : C4) (w : World) : Calls Tryd.prog 17 #[clsV x, clsV y] w (Meets (ret (clsV (x.join y))) w) := (join_calls x y w).mono fun e w' ⟨he, hb⟩ => meets_ret he hb
theorem meetE (x y : C4) (w : World) : Calls Tryd.prog 18 #[clsV x, clsV y] w (Meets (ret (clsV (x.meet y))) w) := (meet_calls x y w).mono fun e w' ⟨he, hb⟩ => meets_ret he hb
theorem notE (x : C4) (w : World) : Calls Tryd.prog 19 #[clsV x] w (Meets (ret (clsV x.not)) w) := (not_calls x w).mono fun e w' ⟨he, hb⟩ => meets_ret he hb
theorem rangeE (lo hi : Int) (h1 : okI64 lo) (h2 : okI64 hi) (w : World) : Calls Tryd.prog 22 #[.int .i64 lo, .int .i64 hi] w (Meets (ret (clsV (rangeF lo hi))) w) := (range_calls lo hi w h1 h2).mono fun e w' ⟨he, hb⟩ => meets_ret he hb
theorem same_cls {x y : C4} (h : x = y) (w : World) : (Op.equalIn 10000 27 (.agg #[v64 x.a, v64 x.b, v64 x.c, v64 x.d]) (.agg #[v64 y.a, v64 y.b, v64 y.c, v64 y.d])).run Tryd.prog w = .ok true w := by
  rw [eq_cls, decide_eq_true h]
theorem build_c0 (w : World) : (Instr.build 27 (#[] : Array (Nat × Value))).run Tryd.prog w = .ok (.agg #[.int .u64 0, .int .u64 0, .int .u64 0, .int .u64 0]) w := by
  go_simp
theorem T_drawL {P : Program} {n : Nat} {W : World} {fr : Fr} {L : List Own} {Q : Exit → Act → World → Prop} {id : Nat} {l : List Oper} (k base : Nat) (z : Option Nat) (hl : l.length = k + 1) (hm : P.follows .mixedOrders = true)
    (hsel : Region.noSelect l.toArray = true) (hf : frontOK .any l.toArray base z 0 l = true) (hz : ∀ d, z = some d → d < base)
    (hQ : ∀ c a d v w, Q (.panic c) (Act.put a d v) w → Q (.panic c) a w)
    (h : TM P n W l.toArray Q (fun a' w' => wpList P l.toArray Q (l.drop k) a' w') (List.replicate k true) (l.take k) fr L) : T P n W (.region id l.toArray true) Q fr L := .mk fun a w hr hmm =>
  mix_long k base z hl hm hsel hf hz hQ (Mem W L) (closed_mem W L) hmm.drew (h.go a hr)
end Go.Proofs.YtbiacehgfmgfdaaDoor.classSets
