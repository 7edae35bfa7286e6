/- The walk of PackApart. -/
import Derived.Test.YtbgamboahifnoaaPackS
namespace Go.Proofs.Ytbgamboahifnoaa.packApart
open Go.RowKit kit mix packL eng
set_option maxHeartbeats 2000000 in
theorem walk (w : World) (v : Value) (l : List (List UInt8)) (hs : Sl w v l.length (l.map str)) (hl : ∀ x ∈ l, x.length ≤ 9223372036854775807) (_ : l.length * 16 ≤ 140737488351232) (v' : Value) (m : List (List UInt8)) (hs' : Sl w v' m.length (m.map str)) (hl' : ∀ x ∈ m, x.length ≤ 9223372036854775807) (_ : m.length * 16 ≤ 140737488351232) (x : Nat) (hx : x < 18446744073709551616) (y : Nat) (hy : y < 18446744073709551616) :
    Calls Try.prog 9 #[v, v', .int .u64 x, .int .u64 y] w (Meets (ret (.bool true)) w) := by
  refine enter (args := [v, v', .int .u64 x, .int .u64 y]) (n := 61) Try.func9 rfl rfl rfl ?_
  have hin := listF_inj (l := l) (m := m)
  have c1 : ∀ w', Mem w [] w' → _ := fun w' hm => list_calls v l w' (sl_old hs w' hm) hl
  have c2 : ∀ w', Mem w [] w' → _ := fun w' hm => list_calls v' m w' (sl_old hs' w' hm) hl'
  have c3 : ∀ w', Mem w [] w' → _ := fun w' hm => equalStr_calls v v' l m w' (sl_old hs w' hm) (sl_old hs' w' hm)
  unfold pairV at c1 c2
  have hf1 : (listF l).2 = 0 ∨ (listF l).2 = 2 := by unfold listF; split <;> (try split) <;> simp
  have hf2 : (listF m).2 = 0 ∨ (listF m).2 = 2 := by unfold listF; split <;> (try split) <;> simp
  have hmono := numL_mono y x
  have hinj : numL x = numL y ↔ x = y := ⟨numL_inj hx hy, fun h => by rw [h]⟩
  generalize listF l = rl at *
  generalize listF m = rm at *
  obtain ⟨s, e⟩ := rl
  obtain ⟨t, f⟩ := rm
  dsimp only at *
  repeat (first
    | refine TL_val (rr_move rfl) rfl rfl rfl ?_
    | refine TL_val (rr_assign rfl) rfl rfl rfl ?_
    | refine TL_nil ?_
    | refine T_seq ?_
    | refine T_region ?_
    | refine T_condT rfl ?_
    | refine T_condF rfl ?_
    | refine T_skip ?_
    | refine T_ret ?_
    | refine E_then ?_
    | refine E_thenR ?_
    | refine TL_val (rr_extract rfl rfl) rfl rfl rfl ?_
    | refine TL_val (rr_pickT rfl rfl) rfl rfl rfl ?_
    | refine TL_val (rr_pickF rfl rfl) rfl rfl rfl ?_
    | refine TL_val (rr_leq rfl rfl (decide_eq_true (by omega))) rfl rfl rfl ?_
    | refine TL_val (rr_leq rfl rfl (decide_eq_false (by omega))) rfl rfl rfl ?_
    | refine TL_val (rr_eql rfl rfl (decide_eq_true (by omega))) rfl rfl rfl ?_
    | refine TL_val (rr_eql rfl rfl (decide_eq_false (by omega))) rfl rfl rfl ?_
    | refine TL_skip rfl rfl rfl rfl rfl rfl ?_
    | refine TL_gval (rr_move rfl) rfl rfl rfl rfl rfl ?_
    | refine TL_gval (rr_strlen Und.eq rfl) rfl rfl rfl rfl rfl ?_
    | refine TL_gval (rr_leq rfl rfl (decide_eq_true (by omega))) rfl rfl rfl rfl rfl ?_
    | refine TL_gval (rr_leq rfl rfl (decide_eq_false (by omega))) rfl rfl rfl rfl rfl ?_
    | refine TL_gval (rr_eql rfl rfl (decide_eq_true (by omega))) rfl rfl rfl rfl rfl ?_
    | refine TL_gval (rr_eql rfl rfl (decide_eq_false (by omega))) rfl rfl rfl rfl rfl ?_)
  refine TL_call (he1 EntersC.en rfl rfl) (fun w hm => c1 _ hm) rfl rfl rfl ?_
  intro _ _
  repeat (first
    | refine TL_val (rr_move rfl) rfl rfl rfl ?_
    | refine TL_val (rr_assign rfl) rfl rfl rfl ?_
    | refine TL_nil ?_
    | refine T_seq ?_
    | refine T_region ?_
    | refine T_condT rfl ?_
    | refine T_condF rfl ?_
    | refine T_skip ?_
    | refine T_ret ?_
    | refine E_then ?_
    | refine E_thenR ?_
    | refine TL_val (rr_extract rfl rfl) rfl rfl rfl ?_
    | refine TL_val (rr_pickT rfl rfl) rfl rfl rfl ?_
    | refine TL_val (rr_pickF rfl rfl) rfl rfl rfl ?_
    | refine TL_val (rr_leq rfl rfl (decide_eq_true (by omega))) rfl rfl rfl ?_
    | refine TL_val (rr_leq rfl rfl (decide_eq_false (by omega))) rfl rfl rfl ?_
    | refine TL_val (rr_eql rfl rfl (decide_eq_true (by omega))) rfl rfl rfl ?_
    | refine TL_val (rr_eql rfl rfl (decide_eq_false (by omega))) rfl rfl rfl ?_
    | refine TL_skip rfl rfl rfl rfl rfl rfl ?_
    | refine TL_gval (rr_move rfl) rfl rfl rfl rfl rfl ?_
    | refine TL_gval (rr_strlen Und.eq rfl) rfl rfl rfl rfl rfl ?_
    | refine TL_gval (rr_leq rfl rfl (decide_eq_true (by omega))) rfl rfl rfl rfl rfl ?_
    | refine TL_gval (rr_leq rfl rfl (decide_eq_false (by omega))) rfl rfl rfl rfl rfl ?_
    | refine TL_gval (rr_eql rfl rfl (decide_eq_true (by omega))) rfl rfl rfl rfl rfl ?_
    | refine TL_gval (rr_eql rfl rfl (decide_eq_false (by omega))) rfl rfl rfl rfl rfl ?_)
  refine TL_call (he1 EntersC.en rfl rfl) (fun w hm => c2 _ hm) rfl rfl rfl ?_
  intro _ _
  have fin : ∀ (s t : List UInt8) (b : Bool), (s = t ↔ b = true) → (!(decide (s = t) == b)) = false := fun s t b h => by
    cases b <;> simp at h ⊢ <;> exact h
  have hnum := num_calls x
  have hnum' := num_calls y
  have hd : (decide ((x : Int) = (y : Int)) == decide (numL x = numL y)) = true := by simp [hinj]; omega
  have hmono := hmono
  rcases hf1 with rfl | rfl
  · rcases hf2 with rfl | rfl
    · have hin := hin rfl rfl
      repeat (first
        | refine TL_val (rr_move rfl) rfl rfl rfl ?_
        | refine TL_val (rr_assign rfl) rfl rfl rfl ?_
        | refine TL_nil ?_
        | refine T_seq ?_
        | refine T_region ?_
        | refine T_condT rfl ?_
        | refine T_condF rfl ?_
        | refine T_skip ?_
        | refine T_ret ?_
        | refine E_then ?_
        | refine E_thenR ?_
        | refine TL_val (rr_extract rfl rfl) rfl rfl rfl ?_
        | refine TL_val (rr_pickT rfl rfl) rfl rfl rfl ?_
        | refine TL_val (rr_pickF rfl rfl) rfl rfl rfl ?_
        | refine TL_val (rr_leq rfl rfl (decide_eq_true (by omega))) rfl rfl rfl ?_
        | refine TL_val (rr_leq rfl rfl (decide_eq_false (by omega))) rfl rfl rfl ?_
        | refine TL_val (rr_eql rfl rfl (decide_eq_true (by omega))) rfl rfl rfl ?_
        | refine TL_val (rr_eql rfl rfl (decide_eq_false (by omega))) rfl rfl rfl ?_
        | refine TL_skip rfl rfl rfl rfl rfl rfl ?_
        | refine TL_gval (rr_streq rfl rfl rfl) rfl rfl rfl rfl rfl ?_
        | refine TL_gval (rr_move rfl) rfl rfl rfl rfl rfl ?_
        | refine TL_gval (rr_strlen Und.eq rfl) rfl rfl rfl rfl rfl ?_
        | refine TL_gval (rr_leq rfl rfl (decide_eq_true (by omega))) rfl rfl rfl rfl rfl ?_
        | refine TL_gval (rr_leq rfl rfl (decide_eq_false (by omega))) rfl rfl rfl rfl rfl ?_
        | refine TL_gval (rr_eql rfl rfl (decide_eq_true (by omega))) rfl rfl rfl rfl rfl ?_
        | refine TL_gval (rr_eql rfl rfl (decide_eq_false (by omega))) rfl rfl rfl rfl rfl ?_)
      refine TL_gcall (he2 EntersC.en rfl rfl rfl) (fun w hm => c3 _ hm.front.front) rfl rfl rfl rfl rfl ?_
      intro _ _
      repeat (first
        | refine TL_val (rr_move rfl) rfl rfl rfl ?_
        | refine TL_val (rr_assign rfl) rfl rfl rfl ?_
        | refine TL_nil ?_
        | refine T_seq ?_
        | refine T_region ?_
        | refine T_condT rfl ?_
        | refine T_condF rfl ?_
        | refine T_skip ?_
        | refine T_ret ?_
        | refine E_then ?_
        | refine E_thenR ?_
        | refine TL_val (rr_extract rfl rfl) rfl rfl rfl ?_
        | refine TL_val (rr_pickT rfl rfl) rfl rfl rfl ?_
        | refine TL_val (rr_pickF rfl rfl) rfl rfl rfl ?_
        | refine TL_val (rr_leq rfl rfl (decide_eq_true (by omega))) rfl rfl rfl ?_
        | refine TL_val (rr_leq rfl rfl (decide_eq_false (by omega))) rfl rfl rfl ?_
        | refine TL_val (rr_eql rfl rfl (decide_eq_true (by omega))) rfl rfl rfl ?_
        | refine TL_val (rr_eql rfl rfl (decide_eq_false (by omega))) rfl rfl rfl ?_
        | refine TL_skip rfl rfl rfl rfl rfl rfl ?_
        | refine TL_gval (rr_boolne Und.eq rfl rfl (fin s t (decide (l = m)) (by simpa using hin))) rfl rfl rfl rfl rfl ?_
        | refine TL_gval (rr_move rfl) rfl rfl rfl rfl rfl ?_
        | refine TL_gval (rr_strlen Und.eq rfl) rfl rfl rfl rfl rfl ?_
        | refine TL_gval (rr_leq rfl rfl (decide_eq_true (by omega))) rfl rfl rfl rfl rfl ?_
        | refine TL_gval (rr_leq rfl rfl (decide_eq_false (by omega))) rfl rfl rfl rfl rfl ?_
        | refine TL_gval (rr_eql rfl rfl (decide_eq_true (by omega))) rfl rfl rfl rfl rfl ?_
        | refine TL_gval (rr_eql rfl rfl (decide_eq_false (by omega))) rfl rfl rfl rfl rfl ?_)
      by_cases c : x ≤ y
      · repeat (first
          | refine TL_val (rr_move rfl) rfl rfl rfl ?_
          | refine TL_val (rr_assign rfl) rfl rfl rfl ?_
          | refine TL_nil ?_
          | refine T_seq ?_
          | refine T_region ?_
          | refine T_condT rfl ?_
          | refine T_condF rfl ?_
          | refine T_skip ?_
          | refine T_ret ?_
          | refine E_then ?_
          | refine E_thenR ?_
          | refine TL_val (rr_eql rfl rfl rfl) rfl rfl rfl ?_
          | refine TL_val (rr_extract rfl rfl) rfl rfl rfl ?_
          | refine TL_val (rr_pickT rfl rfl) rfl rfl rfl ?_
          | refine TL_val (rr_pickF rfl rfl) rfl rfl rfl ?_
          | refine TL_val (rr_leq rfl rfl (decide_eq_true (by omega))) rfl rfl rfl ?_
          | refine TL_val (rr_leq rfl rfl (decide_eq_false (by omega))) rfl rfl rfl ?_
          | refine TL_val (rr_eql rfl rfl (decide_eq_true (by omega))) rfl rfl rfl ?_
          | refine TL_val (rr_eql rfl rfl (decide_eq_false (by omega))) rfl rfl rfl ?_
          | refine TL_skip rfl rfl rfl rfl rfl rfl ?_
          | refine TL_gval (rr_eql rfl rfl rfl) rfl rfl rfl rfl rfl ?_
          | refine TL_gval (rr_move rfl) rfl rfl rfl rfl rfl ?_
          | refine TL_gval (rr_strlen Und.eq rfl) rfl rfl rfl rfl rfl ?_
          | refine TL_gval (rr_leq rfl rfl (decide_eq_true (by omega))) rfl rfl rfl rfl rfl ?_
          | refine TL_gval (rr_leq rfl rfl (decide_eq_false (by omega))) rfl rfl rfl rfl rfl ?_
          | refine TL_gval (rr_eql rfl rfl (decide_eq_true (by omega))) rfl rfl rfl rfl rfl ?_
          | refine TL_gval (rr_eql rfl rfl (decide_eq_false (by omega))) rfl rfl rfl rfl rfl ?_)
        refine TL_gcall (he1 EntersC.en rfl rfl) (fun w hm => hnum w hx) rfl rfl rfl rfl rfl ?_
        intro _ _
        repeat (first
          | refine TL_val (rr_move rfl) rfl rfl rfl ?_
          | refine TL_val (rr_assign rfl) rfl rfl rfl ?_
          | refine TL_nil ?_
          | refine T_seq ?_
          | refine T_region ?_
          | refine T_condT rfl ?_
          | refine T_condF rfl ?_
          | refine T_skip ?_
          | refine T_ret ?_
          | refine E_then ?_
          | refine E_thenR ?_
          | refine TL_val (rr_extract rfl rfl) rfl rfl rfl ?_
          | refine TL_val (rr_pickT rfl rfl) rfl rfl rfl ?_
          | refine TL_val (rr_pickF rfl rfl) rfl rfl rfl ?_
          | refine TL_val (rr_leq rfl rfl (decide_eq_true (by omega))) rfl rfl rfl ?_
          | refine TL_val (rr_leq rfl rfl (decide_eq_false (by omega))) rfl rfl rfl ?_
          | refine TL_val (rr_eql rfl rfl (decide_eq_true (by omega))) rfl rfl rfl ?_
          | refine TL_val (rr_eql rfl rfl (decide_eq_false (by omega))) rfl rfl rfl ?_
          | refine TL_skip rfl rfl rfl rfl rfl rfl ?_
          | refine TL_gval (rr_move rfl) rfl rfl rfl rfl rfl ?_
          | refine TL_gval (rr_strlen Und.eq rfl) rfl rfl rfl rfl rfl ?_
          | refine TL_gval (rr_leq rfl rfl (decide_eq_true (by omega))) rfl rfl rfl rfl rfl ?_
          | refine TL_gval (rr_leq rfl rfl (decide_eq_false (by omega))) rfl rfl rfl rfl rfl ?_
          | refine TL_gval (rr_eql rfl rfl (decide_eq_true (by omega))) rfl rfl rfl rfl rfl ?_
          | refine TL_gval (rr_eql rfl rfl (decide_eq_false (by omega))) rfl rfl rfl rfl rfl ?_)
        refine TL_gcall (he1 EntersC.en rfl rfl) (fun w hm => hnum' w hy) rfl rfl rfl rfl rfl ?_
        intro _ _
        repeat (first
          | refine TL_val (rr_move rfl) rfl rfl rfl ?_
          | refine TL_val (rr_assign rfl) rfl rfl rfl ?_
          | refine TL_nil ?_
          | refine T_seq ?_
          | refine T_region ?_
          | refine T_condT rfl ?_
          | refine T_condF rfl ?_
          | refine T_skip ?_
          | refine T_ret ?_
          | refine E_then ?_
          | refine E_thenR ?_
          | refine TL_val (rr_eql rfl rfl rfl) rfl rfl rfl ?_
          | refine TL_val (rr_extract rfl rfl) rfl rfl rfl ?_
          | refine TL_val (rr_pickT rfl rfl) rfl rfl rfl ?_
          | refine TL_val (rr_pickF rfl rfl) rfl rfl rfl ?_
          | refine TL_val (rr_leq rfl rfl (decide_eq_true (by omega))) rfl rfl rfl ?_
          | refine TL_val (rr_leq rfl rfl (decide_eq_false (by omega))) rfl rfl rfl ?_
          | refine TL_val (rr_eql rfl rfl (decide_eq_true (by omega))) rfl rfl rfl ?_
          | refine TL_val (rr_eql rfl rfl (decide_eq_false (by omega))) rfl rfl rfl ?_
          | refine TL_skip rfl rfl rfl rfl rfl rfl ?_
          | refine TL_gval (rr_eql rfl rfl rfl) rfl rfl rfl rfl rfl ?_
          | refine TL_gval (rr_streq rfl rfl rfl) rfl rfl rfl rfl rfl ?_
          | refine TL_gval (rr_booleq Und.eq rfl rfl hd) rfl rfl rfl rfl rfl ?_
          | refine TL_gval (rr_move rfl) rfl rfl rfl rfl rfl ?_
          | refine TL_gval (rr_strlen Und.eq rfl) rfl rfl rfl rfl rfl ?_
          | refine TL_gval (rr_leq rfl rfl (decide_eq_true (by omega))) rfl rfl rfl rfl rfl ?_
          | refine TL_gval (rr_leq rfl rfl (decide_eq_false (by omega))) rfl rfl rfl rfl rfl ?_
          | refine TL_gval (rr_eql rfl rfl (decide_eq_true (by omega))) rfl rfl rfl rfl rfl ?_
          | refine TL_gval (rr_eql rfl rfl (decide_eq_false (by omega))) rfl rfl rfl rfl rfl ?_)
        exact E_ret1 rfl rfl fun w hm => hm.ret
      · repeat (first
          | refine TL_val (rr_move rfl) rfl rfl rfl ?_
          | refine TL_val (rr_assign rfl) rfl rfl rfl ?_
          | refine TL_nil ?_
          | refine T_seq ?_
          | refine T_region ?_
          | refine T_condT rfl ?_
          | refine T_condF rfl ?_
          | refine T_skip ?_
          | refine T_ret ?_
          | refine E_then ?_
          | refine E_thenR ?_
          | refine TL_val (rr_extract rfl rfl) rfl rfl rfl ?_
          | refine TL_val (rr_pickT rfl rfl) rfl rfl rfl ?_
          | refine TL_val (rr_pickF rfl rfl) rfl rfl rfl ?_
          | refine TL_val (rr_leq rfl rfl (decide_eq_true (by omega))) rfl rfl rfl ?_
          | refine TL_val (rr_leq rfl rfl (decide_eq_false (by omega))) rfl rfl rfl ?_
          | refine TL_val (rr_eql rfl rfl (decide_eq_true (by omega))) rfl rfl rfl ?_
          | refine TL_val (rr_eql rfl rfl (decide_eq_false (by omega))) rfl rfl rfl ?_
          | refine TL_skip rfl rfl rfl rfl rfl rfl ?_
          | refine TL_gval (rr_move rfl) rfl rfl rfl rfl rfl ?_
          | refine TL_gval (rr_strlen Und.eq rfl) rfl rfl rfl rfl rfl ?_
          | refine TL_gval (rr_leq rfl rfl (decide_eq_true (by omega))) rfl rfl rfl rfl rfl ?_
          | refine TL_gval (rr_leq rfl rfl (decide_eq_false (by omega))) rfl rfl rfl rfl rfl ?_
          | refine TL_gval (rr_eql rfl rfl (decide_eq_true (by omega))) rfl rfl rfl rfl rfl ?_
          | refine TL_gval (rr_eql rfl rfl (decide_eq_false (by omega))) rfl rfl rfl rfl rfl ?_)
        refine TL_gcall (he1 EntersC.en rfl rfl) (fun w hm => hnum' w hy) rfl rfl rfl rfl rfl ?_
        intro _ _
        repeat (first
          | refine TL_val (rr_move rfl) rfl rfl rfl ?_
          | refine TL_val (rr_assign rfl) rfl rfl rfl ?_
          | refine TL_nil ?_
          | refine T_seq ?_
          | refine T_region ?_
          | refine T_condT rfl ?_
          | refine T_condF rfl ?_
          | refine T_skip ?_
          | refine T_ret ?_
          | refine E_then ?_
          | refine E_thenR ?_
          | refine TL_val (rr_extract rfl rfl) rfl rfl rfl ?_
          | refine TL_val (rr_pickT rfl rfl) rfl rfl rfl ?_
          | refine TL_val (rr_pickF rfl rfl) rfl rfl rfl ?_
          | refine TL_val (rr_leq rfl rfl (decide_eq_true (by omega))) rfl rfl rfl ?_
          | refine TL_val (rr_leq rfl rfl (decide_eq_false (by omega))) rfl rfl rfl ?_
          | refine TL_val (rr_eql rfl rfl (decide_eq_true (by omega))) rfl rfl rfl ?_
          | refine TL_val (rr_eql rfl rfl (decide_eq_false (by omega))) rfl rfl rfl ?_
          | refine TL_skip rfl rfl rfl rfl rfl rfl ?_
          | refine TL_gval (rr_move rfl) rfl rfl rfl rfl rfl ?_
          | refine TL_gval (rr_strlen Und.eq rfl) rfl rfl rfl rfl rfl ?_
          | refine TL_gval (rr_leq rfl rfl (decide_eq_true (by omega))) rfl rfl rfl rfl rfl ?_
          | refine TL_gval (rr_leq rfl rfl (decide_eq_false (by omega))) rfl rfl rfl rfl rfl ?_
          | refine TL_gval (rr_eql rfl rfl (decide_eq_true (by omega))) rfl rfl rfl rfl rfl ?_
          | refine TL_gval (rr_eql rfl rfl (decide_eq_false (by omega))) rfl rfl rfl rfl rfl ?_)
        refine TL_gcall (he1 EntersC.en rfl rfl) (fun w hm => hnum w hx) rfl rfl rfl rfl rfl ?_
        intro _ _
        repeat (first
          | refine TL_val (rr_move rfl) rfl rfl rfl ?_
          | refine TL_val (rr_assign rfl) rfl rfl rfl ?_
          | refine TL_nil ?_
          | refine T_seq ?_
          | refine T_region ?_
          | refine T_condT rfl ?_
          | refine T_condF rfl ?_
          | refine T_skip ?_
          | refine T_ret ?_
          | refine E_then ?_
          | refine E_thenR ?_
          | refine TL_val (rr_eql rfl rfl rfl) rfl rfl rfl ?_
          | refine TL_val (rr_extract rfl rfl) rfl rfl rfl ?_
          | refine TL_val (rr_pickT rfl rfl) rfl rfl rfl ?_
          | refine TL_val (rr_pickF rfl rfl) rfl rfl rfl ?_
          | refine TL_val (rr_leq rfl rfl (decide_eq_true (by omega))) rfl rfl rfl ?_
          | refine TL_val (rr_leq rfl rfl (decide_eq_false (by omega))) rfl rfl rfl ?_
          | refine TL_val (rr_eql rfl rfl (decide_eq_true (by omega))) rfl rfl rfl ?_
          | refine TL_val (rr_eql rfl rfl (decide_eq_false (by omega))) rfl rfl rfl ?_
          | refine TL_skip rfl rfl rfl rfl rfl rfl ?_
          | refine TL_gval (rr_eql rfl rfl rfl) rfl rfl rfl rfl rfl ?_
          | refine TL_gval (rr_move rfl) rfl rfl rfl rfl rfl ?_
          | refine TL_gval (rr_strlen Und.eq rfl) rfl rfl rfl rfl rfl ?_
          | refine TL_gval (rr_leq rfl rfl (decide_eq_true (by omega))) rfl rfl rfl rfl rfl ?_
          | refine TL_gval (rr_leq rfl rfl (decide_eq_false (by omega))) rfl rfl rfl rfl rfl ?_
          | refine TL_gval (rr_eql rfl rfl (decide_eq_true (by omega))) rfl rfl rfl rfl rfl ?_
          | refine TL_gval (rr_eql rfl rfl (decide_eq_false (by omega))) rfl rfl rfl rfl rfl ?_)
        refine TL_gcall (he1 EntersC.en rfl rfl) (fun w hm => hnum w hx) rfl rfl rfl rfl rfl ?_
        intro _ _
        repeat (first
          | refine TL_val (rr_move rfl) rfl rfl rfl ?_
          | refine TL_val (rr_assign rfl) rfl rfl rfl ?_
          | refine TL_nil ?_
          | refine T_seq ?_
          | refine T_region ?_
          | refine T_condT rfl ?_
          | refine T_condF rfl ?_
          | refine T_skip ?_
          | refine T_ret ?_
          | refine E_then ?_
          | refine E_thenR ?_
          | refine TL_val (rr_extract rfl rfl) rfl rfl rfl ?_
          | refine TL_val (rr_pickT rfl rfl) rfl rfl rfl ?_
          | refine TL_val (rr_pickF rfl rfl) rfl rfl rfl ?_
          | refine TL_val (rr_leq rfl rfl (decide_eq_true (by omega))) rfl rfl rfl ?_
          | refine TL_val (rr_leq rfl rfl (decide_eq_false (by omega))) rfl rfl rfl ?_
          | refine TL_val (rr_eql rfl rfl (decide_eq_true (by omega))) rfl rfl rfl ?_
          | refine TL_val (rr_eql rfl rfl (decide_eq_false (by omega))) rfl rfl rfl ?_
          | refine TL_skip rfl rfl rfl rfl rfl rfl ?_
          | refine TL_gval (rr_move rfl) rfl rfl rfl rfl rfl ?_
          | refine TL_gval (rr_strlen Und.eq rfl) rfl rfl rfl rfl rfl ?_
          | refine TL_gval (rr_leq rfl rfl (decide_eq_true (by omega))) rfl rfl rfl rfl rfl ?_
          | refine TL_gval (rr_leq rfl rfl (decide_eq_false (by omega))) rfl rfl rfl rfl rfl ?_
          | refine TL_gval (rr_eql rfl rfl (decide_eq_true (by omega))) rfl rfl rfl rfl rfl ?_
          | refine TL_gval (rr_eql rfl rfl (decide_eq_false (by omega))) rfl rfl rfl rfl rfl ?_)
        refine TL_gcall (he1 EntersC.en rfl rfl) (fun w hm => hnum' w hy) rfl rfl rfl rfl rfl ?_
        intro _ _
        repeat (first
          | refine TL_val (rr_move rfl) rfl rfl rfl ?_
          | refine TL_val (rr_assign rfl) rfl rfl rfl ?_
          | refine TL_nil ?_
          | refine T_seq ?_
          | refine T_region ?_
          | refine T_condT rfl ?_
          | refine T_condF rfl ?_
          | refine T_skip ?_
          | refine T_ret ?_
          | refine E_then ?_
          | refine E_thenR ?_
          | refine TL_val (rr_eql rfl rfl rfl) rfl rfl rfl ?_
          | refine TL_val (rr_extract rfl rfl) rfl rfl rfl ?_
          | refine TL_val (rr_pickT rfl rfl) rfl rfl rfl ?_
          | refine TL_val (rr_pickF rfl rfl) rfl rfl rfl ?_
          | refine TL_val (rr_leq rfl rfl (decide_eq_true (by omega))) rfl rfl rfl ?_
          | refine TL_val (rr_leq rfl rfl (decide_eq_false (by omega))) rfl rfl rfl ?_
          | refine TL_val (rr_eql rfl rfl (decide_eq_true (by omega))) rfl rfl rfl ?_
          | refine TL_val (rr_eql rfl rfl (decide_eq_false (by omega))) rfl rfl rfl ?_
          | refine TL_skip rfl rfl rfl rfl rfl rfl ?_
          | refine TL_gval (rr_eql rfl rfl rfl) rfl rfl rfl rfl rfl ?_
          | refine TL_gval (rr_streq rfl rfl rfl) rfl rfl rfl rfl rfl ?_
          | refine TL_gval (rr_booleq Und.eq rfl rfl hd) rfl rfl rfl rfl rfl ?_
          | refine TL_gval (rr_move rfl) rfl rfl rfl rfl rfl ?_
          | refine TL_gval (rr_strlen Und.eq rfl) rfl rfl rfl rfl rfl ?_
          | refine TL_gval (rr_leq rfl rfl (decide_eq_true (by omega))) rfl rfl rfl rfl rfl ?_
          | refine TL_gval (rr_leq rfl rfl (decide_eq_false (by omega))) rfl rfl rfl rfl rfl ?_
          | refine TL_gval (rr_eql rfl rfl (decide_eq_true (by omega))) rfl rfl rfl rfl rfl ?_
          | refine TL_gval (rr_eql rfl rfl (decide_eq_false (by omega))) rfl rfl rfl rfl rfl ?_)
        exact E_ret1 rfl rfl fun w hm => hm.ret
    · repeat (first
        | refine TL_val (rr_move rfl) rfl rfl rfl ?_
        | refine TL_val (rr_assign rfl) rfl rfl rfl ?_
        | refine TL_nil ?_
        | refine T_seq ?_
        | refine T_region ?_
        | refine T_condT rfl ?_
        | refine T_condF rfl ?_
        | refine T_skip ?_
        | refine T_ret ?_
        | refine E_then ?_
        | refine E_thenR ?_
        | refine TL_val (rr_extract rfl rfl) rfl rfl rfl ?_
        | refine TL_val (rr_pickT rfl rfl) rfl rfl rfl ?_
        | refine TL_val (rr_pickF rfl rfl) rfl rfl rfl ?_
        | refine TL_val (rr_leq rfl rfl (decide_eq_true (by omega))) rfl rfl rfl ?_
        | refine TL_val (rr_leq rfl rfl (decide_eq_false (by omega))) rfl rfl rfl ?_
        | refine TL_val (rr_eql rfl rfl (decide_eq_true (by omega))) rfl rfl rfl ?_
        | refine TL_val (rr_eql rfl rfl (decide_eq_false (by omega))) rfl rfl rfl ?_
        | refine TL_skip rfl rfl rfl rfl rfl rfl ?_
        | refine TL_gval (rr_move rfl) rfl rfl rfl rfl rfl ?_
        | refine TL_gval (rr_strlen Und.eq rfl) rfl rfl rfl rfl rfl ?_
        | refine TL_gval (rr_leq rfl rfl (decide_eq_true (by omega))) rfl rfl rfl rfl rfl ?_
        | refine TL_gval (rr_leq rfl rfl (decide_eq_false (by omega))) rfl rfl rfl rfl rfl ?_
        | refine TL_gval (rr_eql rfl rfl (decide_eq_true (by omega))) rfl rfl rfl rfl rfl ?_
        | refine TL_gval (rr_eql rfl rfl (decide_eq_false (by omega))) rfl rfl rfl rfl rfl ?_)
      by_cases c : x ≤ y
      · repeat (first
          | refine TL_val (rr_move rfl) rfl rfl rfl ?_
          | refine TL_val (rr_assign rfl) rfl rfl rfl ?_
          | refine TL_nil ?_
          | refine T_seq ?_
          | refine T_region ?_
          | refine T_condT rfl ?_
          | refine T_condF rfl ?_
          | refine T_skip ?_
          | refine T_ret ?_
          | refine E_then ?_
          | refine E_thenR ?_
          | refine TL_val (rr_eql rfl rfl rfl) rfl rfl rfl ?_
          | refine TL_val (rr_extract rfl rfl) rfl rfl rfl ?_
          | refine TL_val (rr_pickT rfl rfl) rfl rfl rfl ?_
          | refine TL_val (rr_pickF rfl rfl) rfl rfl rfl ?_
          | refine TL_val (rr_leq rfl rfl (decide_eq_true (by omega))) rfl rfl rfl ?_
          | refine TL_val (rr_leq rfl rfl (decide_eq_false (by omega))) rfl rfl rfl ?_
          | refine TL_val (rr_eql rfl rfl (decide_eq_true (by omega))) rfl rfl rfl ?_
          | refine TL_val (rr_eql rfl rfl (decide_eq_false (by omega))) rfl rfl rfl ?_
          | refine TL_skip rfl rfl rfl rfl rfl rfl ?_
          | refine TL_gval (rr_eql rfl rfl rfl) rfl rfl rfl rfl rfl ?_
          | refine TL_gval (rr_move rfl) rfl rfl rfl rfl rfl ?_
          | refine TL_gval (rr_strlen Und.eq rfl) rfl rfl rfl rfl rfl ?_
          | refine TL_gval (rr_leq rfl rfl (decide_eq_true (by omega))) rfl rfl rfl rfl rfl ?_
          | refine TL_gval (rr_leq rfl rfl (decide_eq_false (by omega))) rfl rfl rfl rfl rfl ?_
          | refine TL_gval (rr_eql rfl rfl (decide_eq_true (by omega))) rfl rfl rfl rfl rfl ?_
          | refine TL_gval (rr_eql rfl rfl (decide_eq_false (by omega))) rfl rfl rfl rfl rfl ?_)
        refine TL_gcall (he1 EntersC.en rfl rfl) (fun w hm => hnum w hx) rfl rfl rfl rfl rfl ?_
        intro _ _
        repeat (first
          | refine TL_val (rr_move rfl) rfl rfl rfl ?_
          | refine TL_val (rr_assign rfl) rfl rfl rfl ?_
          | refine TL_nil ?_
          | refine T_seq ?_
          | refine T_region ?_
          | refine T_condT rfl ?_
          | refine T_condF rfl ?_
          | refine T_skip ?_
          | refine T_ret ?_
          | refine E_then ?_
          | refine E_thenR ?_
          | refine TL_val (rr_extract rfl rfl) rfl rfl rfl ?_
          | refine TL_val (rr_pickT rfl rfl) rfl rfl rfl ?_
          | refine TL_val (rr_pickF rfl rfl) rfl rfl rfl ?_
          | refine TL_val (rr_leq rfl rfl (decide_eq_true (by omega))) rfl rfl rfl ?_
          | refine TL_val (rr_leq rfl rfl (decide_eq_false (by omega))) rfl rfl rfl ?_
          | refine TL_val (rr_eql rfl rfl (decide_eq_true (by omega))) rfl rfl rfl ?_
          | refine TL_val (rr_eql rfl rfl (decide_eq_false (by omega))) rfl rfl rfl ?_
          | refine TL_skip rfl rfl rfl rfl rfl rfl ?_
          | refine TL_gval (rr_move rfl) rfl rfl rfl rfl rfl ?_
          | refine TL_gval (rr_strlen Und.eq rfl) rfl rfl rfl rfl rfl ?_
          | refine TL_gval (rr_leq rfl rfl (decide_eq_true (by omega))) rfl rfl rfl rfl rfl ?_
          | refine TL_gval (rr_leq rfl rfl (decide_eq_false (by omega))) rfl rfl rfl rfl rfl ?_
          | refine TL_gval (rr_eql rfl rfl (decide_eq_true (by omega))) rfl rfl rfl rfl rfl ?_
          | refine TL_gval (rr_eql rfl rfl (decide_eq_false (by omega))) rfl rfl rfl rfl rfl ?_)
        refine TL_gcall (he1 EntersC.en rfl rfl) (fun w hm => hnum' w hy) rfl rfl rfl rfl rfl ?_
        intro _ _
        repeat (first
          | refine TL_val (rr_move rfl) rfl rfl rfl ?_
          | refine TL_val (rr_assign rfl) rfl rfl rfl ?_
          | refine TL_nil ?_
          | refine T_seq ?_
          | refine T_region ?_
          | refine T_condT rfl ?_
          | refine T_condF rfl ?_
          | refine T_skip ?_
          | refine T_ret ?_
          | refine E_then ?_
          | refine E_thenR ?_
          | refine TL_val (rr_eql rfl rfl rfl) rfl rfl rfl ?_
          | refine TL_val (rr_extract rfl rfl) rfl rfl rfl ?_
          | refine TL_val (rr_pickT rfl rfl) rfl rfl rfl ?_
          | refine TL_val (rr_pickF rfl rfl) rfl rfl rfl ?_
          | refine TL_val (rr_leq rfl rfl (decide_eq_true (by omega))) rfl rfl rfl ?_
          | refine TL_val (rr_leq rfl rfl (decide_eq_false (by omega))) rfl rfl rfl ?_
          | refine TL_val (rr_eql rfl rfl (decide_eq_true (by omega))) rfl rfl rfl ?_
          | refine TL_val (rr_eql rfl rfl (decide_eq_false (by omega))) rfl rfl rfl ?_
          | refine TL_skip rfl rfl rfl rfl rfl rfl ?_
          | refine TL_gval (rr_eql rfl rfl rfl) rfl rfl rfl rfl rfl ?_
          | refine TL_gval (rr_streq rfl rfl rfl) rfl rfl rfl rfl rfl ?_
          | refine TL_gval (rr_booleq Und.eq rfl rfl hd) rfl rfl rfl rfl rfl ?_
          | refine TL_gval (rr_move rfl) rfl rfl rfl rfl rfl ?_
          | refine TL_gval (rr_strlen Und.eq rfl) rfl rfl rfl rfl rfl ?_
          | refine TL_gval (rr_leq rfl rfl (decide_eq_true (by omega))) rfl rfl rfl rfl rfl ?_
          | refine TL_gval (rr_leq rfl rfl (decide_eq_false (by omega))) rfl rfl rfl rfl rfl ?_
          | refine TL_gval (rr_eql rfl rfl (decide_eq_true (by omega))) rfl rfl rfl rfl rfl ?_
          | refine TL_gval (rr_eql rfl rfl (decide_eq_false (by omega))) rfl rfl rfl rfl rfl ?_)
        exact E_ret1 rfl rfl fun w hm => hm.ret
      · repeat (first
          | refine TL_val (rr_move rfl) rfl rfl rfl ?_
          | refine TL_val (rr_assign rfl) rfl rfl rfl ?_
          | refine TL_nil ?_
          | refine T_seq ?_
          | refine T_region ?_
          | refine T_condT rfl ?_
          | refine T_condF rfl ?_
          | refine T_skip ?_
          | refine T_ret ?_
          | refine E_then ?_
          | refine E_thenR ?_
          | refine TL_val (rr_extract rfl rfl) rfl rfl rfl ?_
          | refine TL_val (rr_pickT rfl rfl) rfl rfl rfl ?_
          | refine TL_val (rr_pickF rfl rfl) rfl rfl rfl ?_
          | refine TL_val (rr_leq rfl rfl (decide_eq_true (by omega))) rfl rfl rfl ?_
          | refine TL_val (rr_leq rfl rfl (decide_eq_false (by omega))) rfl rfl rfl ?_
          | refine TL_val (rr_eql rfl rfl (decide_eq_true (by omega))) rfl rfl rfl ?_
          | refine TL_val (rr_eql rfl rfl (decide_eq_false (by omega))) rfl rfl rfl ?_
          | refine TL_skip rfl rfl rfl rfl rfl rfl ?_
          | refine TL_gval (rr_move rfl) rfl rfl rfl rfl rfl ?_
          | refine TL_gval (rr_strlen Und.eq rfl) rfl rfl rfl rfl rfl ?_
          | refine TL_gval (rr_leq rfl rfl (decide_eq_true (by omega))) rfl rfl rfl rfl rfl ?_
          | refine TL_gval (rr_leq rfl rfl (decide_eq_false (by omega))) rfl rfl rfl rfl rfl ?_
          | refine TL_gval (rr_eql rfl rfl (decide_eq_true (by omega))) rfl rfl rfl rfl rfl ?_
          | refine TL_gval (rr_eql rfl rfl (decide_eq_false (by omega))) rfl rfl rfl rfl rfl ?_)
        refine TL_gcall (he1 EntersC.en rfl rfl) (fun w hm => hnum' w hy) rfl rfl rfl rfl rfl ?_
        intro _ _
        repeat (first
          | refine TL_val (rr_move rfl) rfl rfl rfl ?_
          | refine TL_val (rr_assign rfl) rfl rfl rfl ?_
          | refine TL_nil ?_
          | refine T_seq ?_
          | refine T_region ?_
          | refine T_condT rfl ?_
          | refine T_condF rfl ?_
          | refine T_skip ?_
          | refine T_ret ?_
          | refine E_then ?_
          | refine E_thenR ?_
          | refine TL_val (rr_extract rfl rfl) rfl rfl rfl ?_
          | refine TL_val (rr_pickT rfl rfl) rfl rfl rfl ?_
          | refine TL_val (rr_pickF rfl rfl) rfl rfl rfl ?_
          | refine TL_val (rr_leq rfl rfl (decide_eq_true (by omega))) rfl rfl rfl ?_
          | refine TL_val (rr_leq rfl rfl (decide_eq_false (by omega))) rfl rfl rfl ?_
          | refine TL_val (rr_eql rfl rfl (decide_eq_true (by omega))) rfl rfl rfl ?_
          | refine TL_val (rr_eql rfl rfl (decide_eq_false (by omega))) rfl rfl rfl ?_
          | refine TL_skip rfl rfl rfl rfl rfl rfl ?_
          | refine TL_gval (rr_move rfl) rfl rfl rfl rfl rfl ?_
          | refine TL_gval (rr_strlen Und.eq rfl) rfl rfl rfl rfl rfl ?_
          | refine TL_gval (rr_leq rfl rfl (decide_eq_true (by omega))) rfl rfl rfl rfl rfl ?_
          | refine TL_gval (rr_leq rfl rfl (decide_eq_false (by omega))) rfl rfl rfl rfl rfl ?_
          | refine TL_gval (rr_eql rfl rfl (decide_eq_true (by omega))) rfl rfl rfl rfl rfl ?_
          | refine TL_gval (rr_eql rfl rfl (decide_eq_false (by omega))) rfl rfl rfl rfl rfl ?_)
        refine TL_gcall (he1 EntersC.en rfl rfl) (fun w hm => hnum w hx) rfl rfl rfl rfl rfl ?_
        intro _ _
        repeat (first
          | refine TL_val (rr_move rfl) rfl rfl rfl ?_
          | refine TL_val (rr_assign rfl) rfl rfl rfl ?_
          | refine TL_nil ?_
          | refine T_seq ?_
          | refine T_region ?_
          | refine T_condT rfl ?_
          | refine T_condF rfl ?_
          | refine T_skip ?_
          | refine T_ret ?_
          | refine E_then ?_
          | refine E_thenR ?_
          | refine TL_val (rr_eql rfl rfl rfl) rfl rfl rfl ?_
          | refine TL_val (rr_extract rfl rfl) rfl rfl rfl ?_
          | refine TL_val (rr_pickT rfl rfl) rfl rfl rfl ?_
          | refine TL_val (rr_pickF rfl rfl) rfl rfl rfl ?_
          | refine TL_val (rr_leq rfl rfl (decide_eq_true (by omega))) rfl rfl rfl ?_
          | refine TL_val (rr_leq rfl rfl (decide_eq_false (by omega))) rfl rfl rfl ?_
          | refine TL_val (rr_eql rfl rfl (decide_eq_true (by omega))) rfl rfl rfl ?_
          | refine TL_val (rr_eql rfl rfl (decide_eq_false (by omega))) rfl rfl rfl ?_
          | refine TL_skip rfl rfl rfl rfl rfl rfl ?_
          | refine TL_gval (rr_eql rfl rfl rfl) rfl rfl rfl rfl rfl ?_
          | refine TL_gval (rr_move rfl) rfl rfl rfl rfl rfl ?_
          | refine TL_gval (rr_strlen Und.eq rfl) rfl rfl rfl rfl rfl ?_
          | refine TL_gval (rr_leq rfl rfl (decide_eq_true (by omega))) rfl rfl rfl rfl rfl ?_
          | refine TL_gval (rr_leq rfl rfl (decide_eq_false (by omega))) rfl rfl rfl rfl rfl ?_
          | refine TL_gval (rr_eql rfl rfl (decide_eq_true (by omega))) rfl rfl rfl rfl rfl ?_
          | refine TL_gval (rr_eql rfl rfl (decide_eq_false (by omega))) rfl rfl rfl rfl rfl ?_)
        refine TL_gcall (he1 EntersC.en rfl rfl) (fun w hm => hnum w hx) rfl rfl rfl rfl rfl ?_
        intro _ _
        repeat (first
          | refine TL_val (rr_move rfl) rfl rfl rfl ?_
          | refine TL_val (rr_assign rfl) rfl rfl rfl ?_
          | refine TL_nil ?_
          | refine T_seq ?_
          | refine T_region ?_
          | refine T_condT rfl ?_
          | refine T_condF rfl ?_
          | refine T_skip ?_
          | refine T_ret ?_
          | refine E_then ?_
          | refine E_thenR ?_
          | refine TL_val (rr_extract rfl rfl) rfl rfl rfl ?_
          | refine TL_val (rr_pickT rfl rfl) rfl rfl rfl ?_
          | refine TL_val (rr_pickF rfl rfl) rfl rfl rfl ?_
          | refine TL_val (rr_leq rfl rfl (decide_eq_true (by omega))) rfl rfl rfl ?_
          | refine TL_val (rr_leq rfl rfl (decide_eq_false (by omega))) rfl rfl rfl ?_
          | refine TL_val (rr_eql rfl rfl (decide_eq_true (by omega))) rfl rfl rfl ?_
          | refine TL_val (rr_eql rfl rfl (decide_eq_false (by omega))) rfl rfl rfl ?_
          | refine TL_skip rfl rfl rfl rfl rfl rfl ?_
          | refine TL_gval (rr_move rfl) rfl rfl rfl rfl rfl ?_
          | refine TL_gval (rr_strlen Und.eq rfl) rfl rfl rfl rfl rfl ?_
          | refine TL_gval (rr_leq rfl rfl (decide_eq_true (by omega))) rfl rfl rfl rfl rfl ?_
          | refine TL_gval (rr_leq rfl rfl (decide_eq_false (by omega))) rfl rfl rfl rfl rfl ?_
          | refine TL_gval (rr_eql rfl rfl (decide_eq_true (by omega))) rfl rfl rfl rfl rfl ?_
          | refine TL_gval (rr_eql rfl rfl (decide_eq_false (by omega))) rfl rfl rfl rfl rfl ?_)
        refine TL_gcall (he1 EntersC.en rfl rfl) (fun w hm => hnum' w hy) rfl rfl rfl rfl rfl ?_
        intro _ _
        repeat (first
          | refine TL_val (rr_move rfl) rfl rfl rfl ?_
          | refine TL_val (rr_assign rfl) rfl rfl rfl ?_
          | refine TL_nil ?_
          | refine T_seq ?_
          | refine T_region ?_
          | refine T_condT rfl ?_
          | refine T_condF rfl ?_
          | refine T_skip ?_
          | refine T_ret ?_
          | refine E_then ?_
          | refine E_thenR ?_
          | refine TL_val (rr_eql rfl rfl rfl) rfl rfl rfl ?_
          | refine TL_val (rr_extract rfl rfl) rfl rfl rfl ?_
          | refine TL_val (rr_pickT rfl rfl) rfl rfl rfl ?_
          | refine TL_val (rr_pickF rfl rfl) rfl rfl rfl ?_
          | refine TL_val (rr_leq rfl rfl (decide_eq_true (by omega))) rfl rfl rfl ?_
          | refine TL_val (rr_leq rfl rfl (decide_eq_false (by omega))) rfl rfl rfl ?_
          | refine TL_val (rr_eql rfl rfl (decide_eq_true (by omega))) rfl rfl rfl ?_
          | refine TL_val (rr_eql rfl rfl (decide_eq_false (by omega))) rfl rfl rfl ?_
          | refine TL_skip rfl rfl rfl rfl rfl rfl ?_
          | refine TL_gval (rr_eql rfl rfl rfl) rfl rfl rfl rfl rfl ?_
          | refine TL_gval (rr_streq rfl rfl rfl) rfl rfl rfl rfl rfl ?_
          | refine TL_gval (rr_booleq Und.eq rfl rfl hd) rfl rfl rfl rfl rfl ?_
          | refine TL_gval (rr_move rfl) rfl rfl rfl rfl rfl ?_
          | refine TL_gval (rr_strlen Und.eq rfl) rfl rfl rfl rfl rfl ?_
          | refine TL_gval (rr_leq rfl rfl (decide_eq_true (by omega))) rfl rfl rfl rfl rfl ?_
          | refine TL_gval (rr_leq rfl rfl (decide_eq_false (by omega))) rfl rfl rfl rfl rfl ?_
          | refine TL_gval (rr_eql rfl rfl (decide_eq_true (by omega))) rfl rfl rfl rfl rfl ?_
          | refine TL_gval (rr_eql rfl rfl (decide_eq_false (by omega))) rfl rfl rfl rfl rfl ?_)
        exact E_ret1 rfl rfl fun w hm => hm.ret
  · repeat (first
      | refine TL_val (rr_move rfl) rfl rfl rfl ?_
      | refine TL_val (rr_assign rfl) rfl rfl rfl ?_
      | refine TL_nil ?_
      | refine T_seq ?_
      | refine T_region ?_
      | refine T_condT rfl ?_
      | refine T_condF rfl ?_
      | refine T_skip ?_
      | refine T_ret ?_
      | refine E_then ?_
      | refine E_thenR ?_
      | refine TL_val (rr_extract rfl rfl) rfl rfl rfl ?_
      | refine TL_val (rr_pickT rfl rfl) rfl rfl rfl ?_
      | refine TL_val (rr_pickF rfl rfl) rfl rfl rfl ?_
      | refine TL_val (rr_leq rfl rfl (decide_eq_true (by omega))) rfl rfl rfl ?_
      | refine TL_val (rr_leq rfl rfl (decide_eq_false (by omega))) rfl rfl rfl ?_
      | refine TL_val (rr_eql rfl rfl (decide_eq_true (by omega))) rfl rfl rfl ?_
      | refine TL_val (rr_eql rfl rfl (decide_eq_false (by omega))) rfl rfl rfl ?_
      | refine TL_skip rfl rfl rfl rfl rfl rfl ?_
      | refine TL_gval (rr_move rfl) rfl rfl rfl rfl rfl ?_
      | refine TL_gval (rr_strlen Und.eq rfl) rfl rfl rfl rfl rfl ?_
      | refine TL_gval (rr_leq rfl rfl (decide_eq_true (by omega))) rfl rfl rfl rfl rfl ?_
      | refine TL_gval (rr_leq rfl rfl (decide_eq_false (by omega))) rfl rfl rfl rfl rfl ?_
      | refine TL_gval (rr_eql rfl rfl (decide_eq_true (by omega))) rfl rfl rfl rfl rfl ?_
      | refine TL_gval (rr_eql rfl rfl (decide_eq_false (by omega))) rfl rfl rfl rfl rfl ?_)
    by_cases c : x ≤ y
    · repeat (first
        | refine TL_val (rr_move rfl) rfl rfl rfl ?_
        | refine TL_val (rr_assign rfl) rfl rfl rfl ?_
        | refine TL_nil ?_
        | refine T_seq ?_
        | refine T_region ?_
        | refine T_condT rfl ?_
        | refine T_condF rfl ?_
        | refine T_skip ?_
        | refine T_ret ?_
        | refine E_then ?_
        | refine E_thenR ?_
        | refine TL_val (rr_eql rfl rfl rfl) rfl rfl rfl ?_
        | refine TL_val (rr_extract rfl rfl) rfl rfl rfl ?_
        | refine TL_val (rr_pickT rfl rfl) rfl rfl rfl ?_
        | refine TL_val (rr_pickF rfl rfl) rfl rfl rfl ?_
        | refine TL_val (rr_leq rfl rfl (decide_eq_true (by omega))) rfl rfl rfl ?_
        | refine TL_val (rr_leq rfl rfl (decide_eq_false (by omega))) rfl rfl rfl ?_
        | refine TL_val (rr_eql rfl rfl (decide_eq_true (by omega))) rfl rfl rfl ?_
        | refine TL_val (rr_eql rfl rfl (decide_eq_false (by omega))) rfl rfl rfl ?_
        | refine TL_skip rfl rfl rfl rfl rfl rfl ?_
        | refine TL_gval (rr_eql rfl rfl rfl) rfl rfl rfl rfl rfl ?_
        | refine TL_gval (rr_move rfl) rfl rfl rfl rfl rfl ?_
        | refine TL_gval (rr_strlen Und.eq rfl) rfl rfl rfl rfl rfl ?_
        | refine TL_gval (rr_leq rfl rfl (decide_eq_true (by omega))) rfl rfl rfl rfl rfl ?_
        | refine TL_gval (rr_leq rfl rfl (decide_eq_false (by omega))) rfl rfl rfl rfl rfl ?_
        | refine TL_gval (rr_eql rfl rfl (decide_eq_true (by omega))) rfl rfl rfl rfl rfl ?_
        | refine TL_gval (rr_eql rfl rfl (decide_eq_false (by omega))) rfl rfl rfl rfl rfl ?_)
      refine TL_gcall (he1 EntersC.en rfl rfl) (fun w hm => hnum w hx) rfl rfl rfl rfl rfl ?_
      intro _ _
      repeat (first
        | refine TL_val (rr_move rfl) rfl rfl rfl ?_
        | refine TL_val (rr_assign rfl) rfl rfl rfl ?_
        | refine TL_nil ?_
        | refine T_seq ?_
        | refine T_region ?_
        | refine T_condT rfl ?_
        | refine T_condF rfl ?_
        | refine T_skip ?_
        | refine T_ret ?_
        | refine E_then ?_
        | refine E_thenR ?_
        | refine TL_val (rr_extract rfl rfl) rfl rfl rfl ?_
        | refine TL_val (rr_pickT rfl rfl) rfl rfl rfl ?_
        | refine TL_val (rr_pickF rfl rfl) rfl rfl rfl ?_
        | refine TL_val (rr_leq rfl rfl (decide_eq_true (by omega))) rfl rfl rfl ?_
        | refine TL_val (rr_leq rfl rfl (decide_eq_false (by omega))) rfl rfl rfl ?_
        | refine TL_val (rr_eql rfl rfl (decide_eq_true (by omega))) rfl rfl rfl ?_
        | refine TL_val (rr_eql rfl rfl (decide_eq_false (by omega))) rfl rfl rfl ?_
        | refine TL_skip rfl rfl rfl rfl rfl rfl ?_
        | refine TL_gval (rr_move rfl) rfl rfl rfl rfl rfl ?_
        | refine TL_gval (rr_strlen Und.eq rfl) rfl rfl rfl rfl rfl ?_
        | refine TL_gval (rr_leq rfl rfl (decide_eq_true (by omega))) rfl rfl rfl rfl rfl ?_
        | refine TL_gval (rr_leq rfl rfl (decide_eq_false (by omega))) rfl rfl rfl rfl rfl ?_
        | refine TL_gval (rr_eql rfl rfl (decide_eq_true (by omega))) rfl rfl rfl rfl rfl ?_
        | refine TL_gval (rr_eql rfl rfl (decide_eq_false (by omega))) rfl rfl rfl rfl rfl ?_)
      refine TL_gcall (he1 EntersC.en rfl rfl) (fun w hm => hnum' w hy) rfl rfl rfl rfl rfl ?_
      intro _ _
      repeat (first
        | refine TL_val (rr_move rfl) rfl rfl rfl ?_
        | refine TL_val (rr_assign rfl) rfl rfl rfl ?_
        | refine TL_nil ?_
        | refine T_seq ?_
        | refine T_region ?_
        | refine T_condT rfl ?_
        | refine T_condF rfl ?_
        | refine T_skip ?_
        | refine T_ret ?_
        | refine E_then ?_
        | refine E_thenR ?_
        | refine TL_val (rr_eql rfl rfl rfl) rfl rfl rfl ?_
        | refine TL_val (rr_extract rfl rfl) rfl rfl rfl ?_
        | refine TL_val (rr_pickT rfl rfl) rfl rfl rfl ?_
        | refine TL_val (rr_pickF rfl rfl) rfl rfl rfl ?_
        | refine TL_val (rr_leq rfl rfl (decide_eq_true (by omega))) rfl rfl rfl ?_
        | refine TL_val (rr_leq rfl rfl (decide_eq_false (by omega))) rfl rfl rfl ?_
        | refine TL_val (rr_eql rfl rfl (decide_eq_true (by omega))) rfl rfl rfl ?_
        | refine TL_val (rr_eql rfl rfl (decide_eq_false (by omega))) rfl rfl rfl ?_
        | refine TL_skip rfl rfl rfl rfl rfl rfl ?_
        | refine TL_gval (rr_eql rfl rfl rfl) rfl rfl rfl rfl rfl ?_
        | refine TL_gval (rr_streq rfl rfl rfl) rfl rfl rfl rfl rfl ?_
        | refine TL_gval (rr_booleq Und.eq rfl rfl hd) rfl rfl rfl rfl rfl ?_
        | refine TL_gval (rr_move rfl) rfl rfl rfl rfl rfl ?_
        | refine TL_gval (rr_strlen Und.eq rfl) rfl rfl rfl rfl rfl ?_
        | refine TL_gval (rr_leq rfl rfl (decide_eq_true (by omega))) rfl rfl rfl rfl rfl ?_
        | refine TL_gval (rr_leq rfl rfl (decide_eq_false (by omega))) rfl rfl rfl rfl rfl ?_
        | refine TL_gval (rr_eql rfl rfl (decide_eq_true (by omega))) rfl rfl rfl rfl rfl ?_
        | refine TL_gval (rr_eql rfl rfl (decide_eq_false (by omega))) rfl rfl rfl rfl rfl ?_)
      exact E_ret1 rfl rfl fun w hm => hm.ret
    · repeat (first
        | refine TL_val (rr_move rfl) rfl rfl rfl ?_
        | refine TL_val (rr_assign rfl) rfl rfl rfl ?_
        | refine TL_nil ?_
        | refine T_seq ?_
        | refine T_region ?_
        | refine T_condT rfl ?_
        | refine T_condF rfl ?_
        | refine T_skip ?_
        | refine T_ret ?_
        | refine E_then ?_
        | refine E_thenR ?_
        | refine TL_val (rr_extract rfl rfl) rfl rfl rfl ?_
        | refine TL_val (rr_pickT rfl rfl) rfl rfl rfl ?_
        | refine TL_val (rr_pickF rfl rfl) rfl rfl rfl ?_
        | refine TL_val (rr_leq rfl rfl (decide_eq_true (by omega))) rfl rfl rfl ?_
        | refine TL_val (rr_leq rfl rfl (decide_eq_false (by omega))) rfl rfl rfl ?_
        | refine TL_val (rr_eql rfl rfl (decide_eq_true (by omega))) rfl rfl rfl ?_
        | refine TL_val (rr_eql rfl rfl (decide_eq_false (by omega))) rfl rfl rfl ?_
        | refine TL_skip rfl rfl rfl rfl rfl rfl ?_
        | refine TL_gval (rr_move rfl) rfl rfl rfl rfl rfl ?_
        | refine TL_gval (rr_strlen Und.eq rfl) rfl rfl rfl rfl rfl ?_
        | refine TL_gval (rr_leq rfl rfl (decide_eq_true (by omega))) rfl rfl rfl rfl rfl ?_
        | refine TL_gval (rr_leq rfl rfl (decide_eq_false (by omega))) rfl rfl rfl rfl rfl ?_
        | refine TL_gval (rr_eql rfl rfl (decide_eq_true (by omega))) rfl rfl rfl rfl rfl ?_
        | refine TL_gval (rr_eql rfl rfl (decide_eq_false (by omega))) rfl rfl rfl rfl rfl ?_)
      refine TL_gcall (he1 EntersC.en rfl rfl) (fun w hm => hnum' w hy) rfl rfl rfl rfl rfl ?_
      intro _ _
      repeat (first
        | refine TL_val (rr_move rfl) rfl rfl rfl ?_
        | refine TL_val (rr_assign rfl) rfl rfl rfl ?_
        | refine TL_nil ?_
        | refine T_seq ?_
        | refine T_region ?_
        | refine T_condT rfl ?_
        | refine T_condF rfl ?_
        | refine T_skip ?_
        | refine T_ret ?_
        | refine E_then ?_
        | refine E_thenR ?_
        | refine TL_val (rr_extract rfl rfl) rfl rfl rfl ?_
        | refine TL_val (rr_pickT rfl rfl) rfl rfl rfl ?_
        | refine TL_val (rr_pickF rfl rfl) rfl rfl rfl ?_
        | refine TL_val (rr_leq rfl rfl (decide_eq_true (by omega))) rfl rfl rfl ?_
        | refine TL_val (rr_leq rfl rfl (decide_eq_false (by omega))) rfl rfl rfl ?_
        | refine TL_val (rr_eql rfl rfl (decide_eq_true (by omega))) rfl rfl rfl ?_
        | refine TL_val (rr_eql rfl rfl (decide_eq_false (by omega))) rfl rfl rfl ?_
        | refine TL_skip rfl rfl rfl rfl rfl rfl ?_
        | refine TL_gval (rr_move rfl) rfl rfl rfl rfl rfl ?_
        | refine TL_gval (rr_strlen Und.eq rfl) rfl rfl rfl rfl rfl ?_
        | refine TL_gval (rr_leq rfl rfl (decide_eq_true (by omega))) rfl rfl rfl rfl rfl ?_
        | refine TL_gval (rr_leq rfl rfl (decide_eq_false (by omega))) rfl rfl rfl rfl rfl ?_
        | refine TL_gval (rr_eql rfl rfl (decide_eq_true (by omega))) rfl rfl rfl rfl rfl ?_
        | refine TL_gval (rr_eql rfl rfl (decide_eq_false (by omega))) rfl rfl rfl rfl rfl ?_)
      refine TL_gcall (he1 EntersC.en rfl rfl) (fun w hm => hnum w hx) rfl rfl rfl rfl rfl ?_
      intro _ _
      repeat (first
        | refine TL_val (rr_move rfl) rfl rfl rfl ?_
        | refine TL_val (rr_assign rfl) rfl rfl rfl ?_
        | refine TL_nil ?_
        | refine T_seq ?_
        | refine T_region ?_
        | refine T_condT rfl ?_
        | refine T_condF rfl ?_
        | refine T_skip ?_
        | refine T_ret ?_
        | refine E_then ?_
        | refine E_thenR ?_
        | refine TL_val (rr_eql rfl rfl rfl) rfl rfl rfl ?_
        | refine TL_val (rr_extract rfl rfl) rfl rfl rfl ?_
        | refine TL_val (rr_pickT rfl rfl) rfl rfl rfl ?_
        | refine TL_val (rr_pickF rfl rfl) rfl rfl rfl ?_
        | refine TL_val (rr_leq rfl rfl (decide_eq_true (by omega))) rfl rfl rfl ?_
        | refine TL_val (rr_leq rfl rfl (decide_eq_false (by omega))) rfl rfl rfl ?_
        | refine TL_val (rr_eql rfl rfl (decide_eq_true (by omega))) rfl rfl rfl ?_
        | refine TL_val (rr_eql rfl rfl (decide_eq_false (by omega))) rfl rfl rfl ?_
        | refine TL_skip rfl rfl rfl rfl rfl rfl ?_
        | refine TL_gval (rr_eql rfl rfl rfl) rfl rfl rfl rfl rfl ?_
        | refine TL_gval (rr_move rfl) rfl rfl rfl rfl rfl ?_
        | refine TL_gval (rr_strlen Und.eq rfl) rfl rfl rfl rfl rfl ?_
        | refine TL_gval (rr_leq rfl rfl (decide_eq_true (by omega))) rfl rfl rfl rfl rfl ?_
        | refine TL_gval (rr_leq rfl rfl (decide_eq_false (by omega))) rfl rfl rfl rfl rfl ?_
        | refine TL_gval (rr_eql rfl rfl (decide_eq_true (by omega))) rfl rfl rfl rfl rfl ?_
        | refine TL_gval (rr_eql rfl rfl (decide_eq_false (by omega))) rfl rfl rfl rfl rfl ?_)
      refine TL_gcall (he1 EntersC.en rfl rfl) (fun w hm => hnum w hx) rfl rfl rfl rfl rfl ?_
      intro _ _
      repeat (first
        | refine TL_val (rr_move rfl) rfl rfl rfl ?_
        | refine TL_val (rr_assign rfl) rfl rfl rfl ?_
        | refine TL_nil ?_
        | refine T_seq ?_
        | refine T_region ?_
        | refine T_condT rfl ?_
        | refine T_condF rfl ?_
        | refine T_skip ?_
        | refine T_ret ?_
        | refine E_then ?_
        | refine E_thenR ?_
        | refine TL_val (rr_extract rfl rfl) rfl rfl rfl ?_
        | refine TL_val (rr_pickT rfl rfl) rfl rfl rfl ?_
        | refine TL_val (rr_pickF rfl rfl) rfl rfl rfl ?_
        | refine TL_val (rr_leq rfl rfl (decide_eq_true (by omega))) rfl rfl rfl ?_
        | refine TL_val (rr_leq rfl rfl (decide_eq_false (by omega))) rfl rfl rfl ?_
        | refine TL_val (rr_eql rfl rfl (decide_eq_true (by omega))) rfl rfl rfl ?_
        | refine TL_val (rr_eql rfl rfl (decide_eq_false (by omega))) rfl rfl rfl ?_
        | refine TL_skip rfl rfl rfl rfl rfl rfl ?_
        | refine TL_gval (rr_move rfl) rfl rfl rfl rfl rfl ?_
        | refine TL_gval (rr_strlen Und.eq rfl) rfl rfl rfl rfl rfl ?_
        | refine TL_gval (rr_leq rfl rfl (decide_eq_true (by omega))) rfl rfl rfl rfl rfl ?_
        | refine TL_gval (rr_leq rfl rfl (decide_eq_false (by omega))) rfl rfl rfl rfl rfl ?_
        | refine TL_gval (rr_eql rfl rfl (decide_eq_true (by omega))) rfl rfl rfl rfl rfl ?_
        | refine TL_gval (rr_eql rfl rfl (decide_eq_false (by omega))) rfl rfl rfl rfl rfl ?_)
      refine TL_gcall (he1 EntersC.en rfl rfl) (fun w hm => hnum' w hy) rfl rfl rfl rfl rfl ?_
      intro _ _
      repeat (first
        | refine TL_val (rr_move rfl) rfl rfl rfl ?_
        | refine TL_val (rr_assign rfl) rfl rfl rfl ?_
        | refine TL_nil ?_
        | refine T_seq ?_
        | refine T_region ?_
        | refine T_condT rfl ?_
        | refine T_condF rfl ?_
        | refine T_skip ?_
        | refine T_ret ?_
        | refine E_then ?_
        | refine E_thenR ?_
        | refine TL_val (rr_eql rfl rfl rfl) rfl rfl rfl ?_
        | refine TL_val (rr_extract rfl rfl) rfl rfl rfl ?_
        | refine TL_val (rr_pickT rfl rfl) rfl rfl rfl ?_
        | refine TL_val (rr_pickF rfl rfl) rfl rfl rfl ?_
        | refine TL_val (rr_leq rfl rfl (decide_eq_true (by omega))) rfl rfl rfl ?_
        | refine TL_val (rr_leq rfl rfl (decide_eq_false (by omega))) rfl rfl rfl ?_
        | refine TL_val (rr_eql rfl rfl (decide_eq_true (by omega))) rfl rfl rfl ?_
        | refine TL_val (rr_eql rfl rfl (decide_eq_false (by omega))) rfl rfl rfl ?_
        | refine TL_skip rfl rfl rfl rfl rfl rfl ?_
        | refine TL_gval (rr_eql rfl rfl rfl) rfl rfl rfl rfl rfl ?_
        | refine TL_gval (rr_streq rfl rfl rfl) rfl rfl rfl rfl rfl ?_
        | refine TL_gval (rr_booleq Und.eq rfl rfl hd) rfl rfl rfl rfl rfl ?_
        | refine TL_gval (rr_move rfl) rfl rfl rfl rfl rfl ?_
        | refine TL_gval (rr_strlen Und.eq rfl) rfl rfl rfl rfl rfl ?_
        | refine TL_gval (rr_leq rfl rfl (decide_eq_true (by omega))) rfl rfl rfl rfl rfl ?_
        | refine TL_gval (rr_leq rfl rfl (decide_eq_false (by omega))) rfl rfl rfl rfl rfl ?_
        | refine TL_gval (rr_eql rfl rfl (decide_eq_true (by omega))) rfl rfl rfl rfl rfl ?_
        | refine TL_gval (rr_eql rfl rfl (decide_eq_false (by omega))) rfl rfl rfl rfl rfl ?_)
      exact E_ret1 rfl rfl fun w hm => hm.ret
end Go.Proofs.Ytbgamboahifnoaa.packApart
