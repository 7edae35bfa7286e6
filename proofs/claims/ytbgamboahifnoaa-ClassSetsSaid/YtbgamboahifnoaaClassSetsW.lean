/- The walk of ClassSets. -/
import Derived.Test.YtbgamboahifnoaaClassSetsE
namespace Go.Proofs.Ytbgamboahifnoaa.classSets
open Go.RowKit kit mix classL eng
theorem build_c56 (w : World) : (Instr.build 35 #[(0, .int .u64 56)]).run Try.prog w = .ok (.agg #[.int .u64 56, .int .u64 0, .int .u64 0, .int .u64 0]) w := by
  go_simp
theorem build_cz (w : World) : (Instr.build 35 (#[] : Array (Nat × Value))).run Try.prog w = .ok (.agg #[v64 C4.zero.a, v64 C4.zero.b, v64 C4.zero.c, v64 C4.zero.d]) w := by
  rw [build_c0]
  rfl
theorem law6' (c : C4) : c.join c.not = rangeF 0 255 := law6 c
set_option maxRecDepth 100000 in
set_option maxHeartbeats 4000000 in
theorem walkS (w : World) (c d e : C4) : Calls Try.prog 7 #[clsV c, clsV d, clsV e] w (Meets (ret (.bool true)) w) := by
  refine enter (args := [.agg #[v64 c.a, v64 c.b, v64 c.c, v64 c.d], .agg #[v64 d.a, v64 d.b, v64 d.c, v64 d.d], .agg #[v64 e.a, v64 e.b, v64 e.c, v64 e.d]]) (n := 108) Try.func7 rfl rfl rfl ?_
  refine T_seq (T_region (TL_box rfl rfl rfl fun g => TL_box rfl rfl rfl fun g1 => TL_box rfl rfl rfl fun g2 => ?_))
  have hr35 := fun w => rangeE 3 5 ⟨by decide, by decide⟩ ⟨by decide, by decide⟩ w
  have hr255 := fun w => rangeE 0 255 ⟨by decide, by decide⟩ ⟨by decide, by decide⟩ w
  have h6 := law6 c
  have h7 := law7 c
  have hbz := build_cz
  generalize C4.zero = Z at h7 hbz
  rw [range_35] at hr35
  generalize rangeF 0 255 = R at h6 hr255
  repeat (first
    | refine TL_val (rr_move rfl) rfl rfl rfl ?_
    | refine TL_val (rr_assign rfl) rfl rfl rfl ?_
    | refine TL_nil ?_
    | refine T_seq ?_
    | refine T_region ?_
    | refine T_condT rfl ?_
    | refine T_condF rfl ?_
    | refine T_skip ?_
    | refine T_ret ?_
    | refine E_then ?_
    | refine E_thenR ?_
    | refine TL_val (rr_pickT rfl rfl) rfl rfl rfl ?_
    | refine TL_val (rr_pickF rfl rfl) rfl rfl rfl ?_
    | refine TL_skip rfl rfl rfl rfl rfl rfl ?_
    | refine TL_gval (rr_move rfl) rfl rfl rfl rfl rfl ?_)
  refine TL_call (he2 EntersC.en rfl rfl rfl) (fun w hm => hr35 _) rfl rfl rfl ?_
  intro _ _
  repeat (first
    | refine TL_val (rr_move rfl) rfl rfl rfl ?_
    | refine TL_val (rr_assign rfl) rfl rfl rfl ?_
    | refine TL_nil ?_
    | refine T_seq ?_
    | refine T_region ?_
    | refine T_condT rfl ?_
    | refine T_condF rfl ?_
    | refine T_skip ?_
    | refine T_ret ?_
    | refine E_then ?_
    | refine E_thenR ?_
    | refine TL_val (rr_build rfl build_c56) rfl rfl rfl ?_
    | refine TL_val (rr_aggne rfl rfl (by kernel_rfl) (fun w => same_cls (x := ⟨56, 0, 0, 0⟩) (y := ⟨56, 0, 0, 0⟩) rfl w) rfl) rfl rfl rfl ?_
    | refine TL_val (rr_pickT rfl rfl) rfl rfl rfl ?_
    | refine TL_val (rr_pickF rfl rfl) rfl rfl rfl ?_
    | refine TL_skip rfl rfl rfl rfl rfl rfl ?_
    | refine TL_gval (rr_build rfl build_c56) rfl rfl rfl rfl rfl ?_
    | refine TL_gval (rr_aggne rfl rfl (by kernel_rfl) (fun w => same_cls (x := ⟨56, 0, 0, 0⟩) (y := ⟨56, 0, 0, 0⟩) rfl w) rfl) rfl rfl rfl rfl rfl ?_
    | refine TL_gval (rr_move rfl) rfl rfl rfl rfl rfl ?_)
  refine T_drawL 95 13 (some 6) rfl (by kernel_rfl) (by kernel_rfl) (by kernel_rfl) (by intro d h; simp at h; try omega) (by intro c a d v w h; cases d <;> exact h) ?_
  repeat (first
    | refine TM_val (rr_move rfl) rfl rfl rfl ?_
    | refine TM_val (rr_assign rfl) rfl rfl rfl ?_
    | refine TM_val (rr_loadB (i := 0) TyC.ty rfl rfl rfl) rfl rfl rfl ?_
    | refine TM_val (rr_loadB (i := 1) TyC.ty rfl rfl rfl) rfl rfl rfl ?_
    | refine TM_val (rr_loadB (i := 2) TyC.ty rfl rfl rfl) rfl rfl rfl ?_
    | refine TM_val (rr_pickT rfl rfl) rfl rfl rfl ?_
    | refine TM_val (rr_pickF rfl rfl) rfl rfl rfl ?_
    | refine TM_skip rfl rfl rfl rfl rfl rfl ?_
    | refine TM_gval (rr_loadB (i := 0) TyC.ty rfl rfl rfl) rfl rfl rfl rfl rfl ?_
    | refine TM_gval (rr_loadB (i := 1) TyC.ty rfl rfl rfl) rfl rfl rfl rfl rfl ?_
    | refine TM_gval (rr_loadB (i := 2) TyC.ty rfl rfl rfl) rfl rfl rfl rfl rfl ?_
    | refine TM_gval (rr_move rfl) rfl rfl rfl rfl rfl ?_
    | refine TM_end ?_)
  refine TM_call (he2 EntersC.en rfl rfl rfl) (fun w hm => joinE c d _) rfl rfl rfl ?_
  repeat (first
    | refine TM_val (rr_move rfl) rfl rfl rfl ?_
    | refine TM_val (rr_assign rfl) rfl rfl rfl ?_
    | refine TM_val (rr_loadB (i := 0) TyC.ty rfl rfl rfl) rfl rfl rfl ?_
    | refine TM_val (rr_loadB (i := 1) TyC.ty rfl rfl rfl) rfl rfl rfl ?_
    | refine TM_val (rr_loadB (i := 2) TyC.ty rfl rfl rfl) rfl rfl rfl ?_
    | refine TM_val (rr_pickT rfl rfl) rfl rfl rfl ?_
    | refine TM_val (rr_pickF rfl rfl) rfl rfl rfl ?_
    | refine TM_skip rfl rfl rfl rfl rfl rfl ?_
    | refine TM_gval (rr_loadB (i := 0) TyC.ty rfl rfl rfl) rfl rfl rfl rfl rfl ?_
    | refine TM_gval (rr_loadB (i := 1) TyC.ty rfl rfl rfl) rfl rfl rfl rfl rfl ?_
    | refine TM_gval (rr_loadB (i := 2) TyC.ty rfl rfl rfl) rfl rfl rfl rfl rfl ?_
    | refine TM_gval (rr_move rfl) rfl rfl rfl rfl rfl ?_
    | refine TM_end ?_)
  refine TM_call (he1 EntersC.en rfl rfl) (fun w hm => notE (c.join d) _) rfl rfl rfl ?_
  repeat (first
    | refine TM_val (rr_move rfl) rfl rfl rfl ?_
    | refine TM_val (rr_assign rfl) rfl rfl rfl ?_
    | refine TM_val (rr_loadB (i := 0) TyC.ty rfl rfl rfl) rfl rfl rfl ?_
    | refine TM_val (rr_loadB (i := 1) TyC.ty rfl rfl rfl) rfl rfl rfl ?_
    | refine TM_val (rr_loadB (i := 2) TyC.ty rfl rfl rfl) rfl rfl rfl ?_
    | refine TM_val (rr_pickT rfl rfl) rfl rfl rfl ?_
    | refine TM_val (rr_pickF rfl rfl) rfl rfl rfl ?_
    | refine TM_skip rfl rfl rfl rfl rfl rfl ?_
    | refine TM_gval (rr_loadB (i := 0) TyC.ty rfl rfl rfl) rfl rfl rfl rfl rfl ?_
    | refine TM_gval (rr_loadB (i := 1) TyC.ty rfl rfl rfl) rfl rfl rfl rfl rfl ?_
    | refine TM_gval (rr_loadB (i := 2) TyC.ty rfl rfl rfl) rfl rfl rfl rfl rfl ?_
    | refine TM_gval (rr_move rfl) rfl rfl rfl rfl rfl ?_
    | refine TM_end ?_)
  refine TM_call (he1 EntersC.en rfl rfl) (fun w hm => notE c _) rfl rfl rfl ?_
  repeat (first
    | refine TM_val (rr_move rfl) rfl rfl rfl ?_
    | refine TM_val (rr_assign rfl) rfl rfl rfl ?_
    | refine TM_val (rr_loadB (i := 0) TyC.ty rfl rfl rfl) rfl rfl rfl ?_
    | refine TM_val (rr_loadB (i := 1) TyC.ty rfl rfl rfl) rfl rfl rfl ?_
    | refine TM_val (rr_loadB (i := 2) TyC.ty rfl rfl rfl) rfl rfl rfl ?_
    | refine TM_val (rr_pickT rfl rfl) rfl rfl rfl ?_
    | refine TM_val (rr_pickF rfl rfl) rfl rfl rfl ?_
    | refine TM_skip rfl rfl rfl rfl rfl rfl ?_
    | refine TM_gval (rr_loadB (i := 0) TyC.ty rfl rfl rfl) rfl rfl rfl rfl rfl ?_
    | refine TM_gval (rr_loadB (i := 1) TyC.ty rfl rfl rfl) rfl rfl rfl rfl rfl ?_
    | refine TM_gval (rr_loadB (i := 2) TyC.ty rfl rfl rfl) rfl rfl rfl rfl rfl ?_
    | refine TM_gval (rr_move rfl) rfl rfl rfl rfl rfl ?_
    | refine TM_end ?_)
  refine TM_call (he1 EntersC.en rfl rfl) (fun w hm => notE d _) rfl rfl rfl ?_
  repeat (first
    | refine TM_val (rr_move rfl) rfl rfl rfl ?_
    | refine TM_val (rr_assign rfl) rfl rfl rfl ?_
    | refine TM_val (rr_loadB (i := 0) TyC.ty rfl rfl rfl) rfl rfl rfl ?_
    | refine TM_val (rr_loadB (i := 1) TyC.ty rfl rfl rfl) rfl rfl rfl ?_
    | refine TM_val (rr_loadB (i := 2) TyC.ty rfl rfl rfl) rfl rfl rfl ?_
    | refine TM_val (rr_pickT rfl rfl) rfl rfl rfl ?_
    | refine TM_val (rr_pickF rfl rfl) rfl rfl rfl ?_
    | refine TM_skip rfl rfl rfl rfl rfl rfl ?_
    | refine TM_gval (rr_loadB (i := 0) TyC.ty rfl rfl rfl) rfl rfl rfl rfl rfl ?_
    | refine TM_gval (rr_loadB (i := 1) TyC.ty rfl rfl rfl) rfl rfl rfl rfl rfl ?_
    | refine TM_gval (rr_loadB (i := 2) TyC.ty rfl rfl rfl) rfl rfl rfl rfl rfl ?_
    | refine TM_gval (rr_move rfl) rfl rfl rfl rfl rfl ?_
    | refine TM_end ?_)
  refine TM_call (he2 EntersC.en rfl rfl rfl) (fun w hm => meetE c.not d.not _) rfl rfl rfl ?_
  repeat (first
    | refine TM_val (rr_move rfl) rfl rfl rfl ?_
    | refine TM_val (rr_assign rfl) rfl rfl rfl ?_
    | refine TM_val (rr_loadB (i := 0) TyC.ty rfl rfl rfl) rfl rfl rfl ?_
    | refine TM_val (rr_loadB (i := 1) TyC.ty rfl rfl rfl) rfl rfl rfl ?_
    | refine TM_val (rr_loadB (i := 2) TyC.ty rfl rfl rfl) rfl rfl rfl ?_
    | refine TM_val (rr_aggeq (b := true) rfl rfl (by kernel_rfl) (same_cls (law1 c d))) rfl rfl rfl ?_
    | refine TM_val (rr_pickT rfl rfl) rfl rfl rfl ?_
    | refine TM_val (rr_pickF rfl rfl) rfl rfl rfl ?_
    | refine TM_skip rfl rfl rfl rfl rfl rfl ?_
    | refine TM_gval (rr_loadB (i := 0) TyC.ty rfl rfl rfl) rfl rfl rfl rfl rfl ?_
    | refine TM_gval (rr_loadB (i := 1) TyC.ty rfl rfl rfl) rfl rfl rfl rfl rfl ?_
    | refine TM_gval (rr_loadB (i := 2) TyC.ty rfl rfl rfl) rfl rfl rfl rfl rfl ?_
    | refine TM_gval (rr_aggeq (b := true) rfl rfl (by kernel_rfl) (same_cls (law1 c d))) rfl rfl rfl rfl rfl ?_
    | refine TM_gval (rr_move rfl) rfl rfl rfl rfl rfl ?_
    | refine TM_end ?_)
  refine TM_gcall (he1 EntersC.en rfl rfl) (fun w hm => notE c _) rfl rfl rfl rfl rfl ?_
  repeat (first
    | refine TM_val (rr_move rfl) rfl rfl rfl ?_
    | refine TM_val (rr_assign rfl) rfl rfl rfl ?_
    | refine TM_val (rr_loadB (i := 0) TyC.ty rfl rfl rfl) rfl rfl rfl ?_
    | refine TM_val (rr_loadB (i := 1) TyC.ty rfl rfl rfl) rfl rfl rfl ?_
    | refine TM_val (rr_loadB (i := 2) TyC.ty rfl rfl rfl) rfl rfl rfl ?_
    | refine TM_val (rr_pickT rfl rfl) rfl rfl rfl ?_
    | refine TM_val (rr_pickF rfl rfl) rfl rfl rfl ?_
    | refine TM_skip rfl rfl rfl rfl rfl rfl ?_
    | refine TM_gval (rr_loadB (i := 0) TyC.ty rfl rfl rfl) rfl rfl rfl rfl rfl ?_
    | refine TM_gval (rr_loadB (i := 1) TyC.ty rfl rfl rfl) rfl rfl rfl rfl rfl ?_
    | refine TM_gval (rr_loadB (i := 2) TyC.ty rfl rfl rfl) rfl rfl rfl rfl rfl ?_
    | refine TM_gval (rr_move rfl) rfl rfl rfl rfl rfl ?_
    | refine TM_end ?_)
  refine TM_gcall (he1 EntersC.en rfl rfl) (fun w hm => notE c.not _) rfl rfl rfl rfl rfl ?_
  repeat (first
    | refine TM_val (rr_move rfl) rfl rfl rfl ?_
    | refine TM_val (rr_assign rfl) rfl rfl rfl ?_
    | refine TM_val (rr_loadB (i := 0) TyC.ty rfl rfl rfl) rfl rfl rfl ?_
    | refine TM_val (rr_loadB (i := 1) TyC.ty rfl rfl rfl) rfl rfl rfl ?_
    | refine TM_val (rr_loadB (i := 2) TyC.ty rfl rfl rfl) rfl rfl rfl ?_
    | refine TM_val (rr_aggeq (b := true) rfl rfl (by kernel_rfl) (same_cls (law2 c))) rfl rfl rfl ?_
    | refine TM_val (rr_pickT rfl rfl) rfl rfl rfl ?_
    | refine TM_val (rr_pickF rfl rfl) rfl rfl rfl ?_
    | refine TM_skip rfl rfl rfl rfl rfl rfl ?_
    | refine TM_gval (rr_loadB (i := 0) TyC.ty rfl rfl rfl) rfl rfl rfl rfl rfl ?_
    | refine TM_gval (rr_loadB (i := 1) TyC.ty rfl rfl rfl) rfl rfl rfl rfl rfl ?_
    | refine TM_gval (rr_loadB (i := 2) TyC.ty rfl rfl rfl) rfl rfl rfl rfl rfl ?_
    | refine TM_gval (rr_aggeq (b := true) rfl rfl (by kernel_rfl) (same_cls (law2 c))) rfl rfl rfl rfl rfl ?_
    | refine TM_gval (rr_move rfl) rfl rfl rfl rfl rfl ?_
    | refine TM_end ?_)
  refine TM_gcall (he2 EntersC.en rfl rfl rfl) (fun w hm => joinE d e _) rfl rfl rfl rfl rfl ?_
  repeat (first
    | refine TM_val (rr_move rfl) rfl rfl rfl ?_
    | refine TM_val (rr_assign rfl) rfl rfl rfl ?_
    | refine TM_val (rr_loadB (i := 0) TyC.ty rfl rfl rfl) rfl rfl rfl ?_
    | refine TM_val (rr_loadB (i := 1) TyC.ty rfl rfl rfl) rfl rfl rfl ?_
    | refine TM_val (rr_loadB (i := 2) TyC.ty rfl rfl rfl) rfl rfl rfl ?_
    | refine TM_val (rr_pickT rfl rfl) rfl rfl rfl ?_
    | refine TM_val (rr_pickF rfl rfl) rfl rfl rfl ?_
    | refine TM_skip rfl rfl rfl rfl rfl rfl ?_
    | refine TM_gval (rr_loadB (i := 0) TyC.ty rfl rfl rfl) rfl rfl rfl rfl rfl ?_
    | refine TM_gval (rr_loadB (i := 1) TyC.ty rfl rfl rfl) rfl rfl rfl rfl rfl ?_
    | refine TM_gval (rr_loadB (i := 2) TyC.ty rfl rfl rfl) rfl rfl rfl rfl rfl ?_
    | refine TM_gval (rr_move rfl) rfl rfl rfl rfl rfl ?_
    | refine TM_end ?_)
  refine TM_gcall (he2 EntersC.en rfl rfl rfl) (fun w hm => meetE c (d.join e) _) rfl rfl rfl rfl rfl ?_
  repeat (first
    | refine TM_val (rr_move rfl) rfl rfl rfl ?_
    | refine TM_val (rr_assign rfl) rfl rfl rfl ?_
    | refine TM_val (rr_loadB (i := 0) TyC.ty rfl rfl rfl) rfl rfl rfl ?_
    | refine TM_val (rr_loadB (i := 1) TyC.ty rfl rfl rfl) rfl rfl rfl ?_
    | refine TM_val (rr_loadB (i := 2) TyC.ty rfl rfl rfl) rfl rfl rfl ?_
    | refine TM_val (rr_pickT rfl rfl) rfl rfl rfl ?_
    | refine TM_val (rr_pickF rfl rfl) rfl rfl rfl ?_
    | refine TM_skip rfl rfl rfl rfl rfl rfl ?_
    | refine TM_gval (rr_loadB (i := 0) TyC.ty rfl rfl rfl) rfl rfl rfl rfl rfl ?_
    | refine TM_gval (rr_loadB (i := 1) TyC.ty rfl rfl rfl) rfl rfl rfl rfl rfl ?_
    | refine TM_gval (rr_loadB (i := 2) TyC.ty rfl rfl rfl) rfl rfl rfl rfl rfl ?_
    | refine TM_gval (rr_move rfl) rfl rfl rfl rfl rfl ?_
    | refine TM_end ?_)
  refine TM_gcall (he2 EntersC.en rfl rfl rfl) (fun w hm => meetE c d _) rfl rfl rfl rfl rfl ?_
  repeat (first
    | refine TM_val (rr_move rfl) rfl rfl rfl ?_
    | refine TM_val (rr_assign rfl) rfl rfl rfl ?_
    | refine TM_val (rr_loadB (i := 0) TyC.ty rfl rfl rfl) rfl rfl rfl ?_
    | refine TM_val (rr_loadB (i := 1) TyC.ty rfl rfl rfl) rfl rfl rfl ?_
    | refine TM_val (rr_loadB (i := 2) TyC.ty rfl rfl rfl) rfl rfl rfl ?_
    | refine TM_val (rr_pickT rfl rfl) rfl rfl rfl ?_
    | refine TM_val (rr_pickF rfl rfl) rfl rfl rfl ?_
    | refine TM_skip rfl rfl rfl rfl rfl rfl ?_
    | refine TM_gval (rr_loadB (i := 0) TyC.ty rfl rfl rfl) rfl rfl rfl rfl rfl ?_
    | refine TM_gval (rr_loadB (i := 1) TyC.ty rfl rfl rfl) rfl rfl rfl rfl rfl ?_
    | refine TM_gval (rr_loadB (i := 2) TyC.ty rfl rfl rfl) rfl rfl rfl rfl rfl ?_
    | refine TM_gval (rr_move rfl) rfl rfl rfl rfl rfl ?_
    | refine TM_end ?_)
  refine TM_gcall (he2 EntersC.en rfl rfl rfl) (fun w hm => meetE c e _) rfl rfl rfl rfl rfl ?_
  repeat (first
    | refine TM_val (rr_move rfl) rfl rfl rfl ?_
    | refine TM_val (rr_assign rfl) rfl rfl rfl ?_
    | refine TM_val (rr_loadB (i := 0) TyC.ty rfl rfl rfl) rfl rfl rfl ?_
    | refine TM_val (rr_loadB (i := 1) TyC.ty rfl rfl rfl) rfl rfl rfl ?_
    | refine TM_val (rr_loadB (i := 2) TyC.ty rfl rfl rfl) rfl rfl rfl ?_
    | refine TM_val (rr_pickT rfl rfl) rfl rfl rfl ?_
    | refine TM_val (rr_pickF rfl rfl) rfl rfl rfl ?_
    | refine TM_skip rfl rfl rfl rfl rfl rfl ?_
    | refine TM_gval (rr_loadB (i := 0) TyC.ty rfl rfl rfl) rfl rfl rfl rfl rfl ?_
    | refine TM_gval (rr_loadB (i := 1) TyC.ty rfl rfl rfl) rfl rfl rfl rfl rfl ?_
    | refine TM_gval (rr_loadB (i := 2) TyC.ty rfl rfl rfl) rfl rfl rfl rfl rfl ?_
    | refine TM_gval (rr_move rfl) rfl rfl rfl rfl rfl ?_
    | refine TM_end ?_)
  refine TM_gcall (he2 EntersC.en rfl rfl rfl) (fun w hm => joinE (c.meet d) (c.meet e) _) rfl rfl rfl rfl rfl ?_
  repeat (first
    | refine TM_val (rr_move rfl) rfl rfl rfl ?_
    | refine TM_val (rr_assign rfl) rfl rfl rfl ?_
    | refine TM_val (rr_loadB (i := 0) TyC.ty rfl rfl rfl) rfl rfl rfl ?_
    | refine TM_val (rr_loadB (i := 1) TyC.ty rfl rfl rfl) rfl rfl rfl ?_
    | refine TM_val (rr_loadB (i := 2) TyC.ty rfl rfl rfl) rfl rfl rfl ?_
    | refine TM_val (rr_aggeq (b := true) rfl rfl (by kernel_rfl) (same_cls (law3 c d e))) rfl rfl rfl ?_
    | refine TM_val (rr_pickT rfl rfl) rfl rfl rfl ?_
    | refine TM_val (rr_pickF rfl rfl) rfl rfl rfl ?_
    | refine TM_skip rfl rfl rfl rfl rfl rfl ?_
    | refine TM_gval (rr_loadB (i := 0) TyC.ty rfl rfl rfl) rfl rfl rfl rfl rfl ?_
    | refine TM_gval (rr_loadB (i := 1) TyC.ty rfl rfl rfl) rfl rfl rfl rfl rfl ?_
    | refine TM_gval (rr_loadB (i := 2) TyC.ty rfl rfl rfl) rfl rfl rfl rfl rfl ?_
    | refine TM_gval (rr_aggeq (b := true) rfl rfl (by kernel_rfl) (same_cls (law3 c d e))) rfl rfl rfl rfl rfl ?_
    | refine TM_gval (rr_move rfl) rfl rfl rfl rfl rfl ?_
    | refine TM_end ?_)
  refine TM_gcall (he2 EntersC.en rfl rfl rfl) (fun w hm => meetE d e _) rfl rfl rfl rfl rfl ?_
  repeat (first
    | refine TM_val (rr_move rfl) rfl rfl rfl ?_
    | refine TM_val (rr_assign rfl) rfl rfl rfl ?_
    | refine TM_val (rr_loadB (i := 0) TyC.ty rfl rfl rfl) rfl rfl rfl ?_
    | refine TM_val (rr_loadB (i := 1) TyC.ty rfl rfl rfl) rfl rfl rfl ?_
    | refine TM_val (rr_loadB (i := 2) TyC.ty rfl rfl rfl) rfl rfl rfl ?_
    | refine TM_val (rr_pickT rfl rfl) rfl rfl rfl ?_
    | refine TM_val (rr_pickF rfl rfl) rfl rfl rfl ?_
    | refine TM_skip rfl rfl rfl rfl rfl rfl ?_
    | refine TM_gval (rr_loadB (i := 0) TyC.ty rfl rfl rfl) rfl rfl rfl rfl rfl ?_
    | refine TM_gval (rr_loadB (i := 1) TyC.ty rfl rfl rfl) rfl rfl rfl rfl rfl ?_
    | refine TM_gval (rr_loadB (i := 2) TyC.ty rfl rfl rfl) rfl rfl rfl rfl rfl ?_
    | refine TM_gval (rr_move rfl) rfl rfl rfl rfl rfl ?_
    | refine TM_end ?_)
  refine TM_gcall (he2 EntersC.en rfl rfl rfl) (fun w hm => joinE c (d.meet e) _) rfl rfl rfl rfl rfl ?_
  repeat (first
    | refine TM_val (rr_move rfl) rfl rfl rfl ?_
    | refine TM_val (rr_assign rfl) rfl rfl rfl ?_
    | refine TM_val (rr_loadB (i := 0) TyC.ty rfl rfl rfl) rfl rfl rfl ?_
    | refine TM_val (rr_loadB (i := 1) TyC.ty rfl rfl rfl) rfl rfl rfl ?_
    | refine TM_val (rr_loadB (i := 2) TyC.ty rfl rfl rfl) rfl rfl rfl ?_
    | refine TM_val (rr_pickT rfl rfl) rfl rfl rfl ?_
    | refine TM_val (rr_pickF rfl rfl) rfl rfl rfl ?_
    | refine TM_skip rfl rfl rfl rfl rfl rfl ?_
    | refine TM_gval (rr_loadB (i := 0) TyC.ty rfl rfl rfl) rfl rfl rfl rfl rfl ?_
    | refine TM_gval (rr_loadB (i := 1) TyC.ty rfl rfl rfl) rfl rfl rfl rfl rfl ?_
    | refine TM_gval (rr_loadB (i := 2) TyC.ty rfl rfl rfl) rfl rfl rfl rfl rfl ?_
    | refine TM_gval (rr_move rfl) rfl rfl rfl rfl rfl ?_
    | refine TM_end ?_)
  refine TM_gcall (he2 EntersC.en rfl rfl rfl) (fun w hm => joinE c d _) rfl rfl rfl rfl rfl ?_
  repeat (first
    | refine TM_val (rr_move rfl) rfl rfl rfl ?_
    | refine TM_val (rr_assign rfl) rfl rfl rfl ?_
    | refine TM_val (rr_loadB (i := 0) TyC.ty rfl rfl rfl) rfl rfl rfl ?_
    | refine TM_val (rr_loadB (i := 1) TyC.ty rfl rfl rfl) rfl rfl rfl ?_
    | refine TM_val (rr_loadB (i := 2) TyC.ty rfl rfl rfl) rfl rfl rfl ?_
    | refine TM_val (rr_pickT rfl rfl) rfl rfl rfl ?_
    | refine TM_val (rr_pickF rfl rfl) rfl rfl rfl ?_
    | refine TM_skip rfl rfl rfl rfl rfl rfl ?_
    | refine TM_gval (rr_loadB (i := 0) TyC.ty rfl rfl rfl) rfl rfl rfl rfl rfl ?_
    | refine TM_gval (rr_loadB (i := 1) TyC.ty rfl rfl rfl) rfl rfl rfl rfl rfl ?_
    | refine TM_gval (rr_loadB (i := 2) TyC.ty rfl rfl rfl) rfl rfl rfl rfl rfl ?_
    | refine TM_gval (rr_move rfl) rfl rfl rfl rfl rfl ?_
    | refine TM_end ?_)
  refine TM_gcall (he2 EntersC.en rfl rfl rfl) (fun w hm => joinE c e _) rfl rfl rfl rfl rfl ?_
  repeat (first
    | refine TM_val (rr_move rfl) rfl rfl rfl ?_
    | refine TM_val (rr_assign rfl) rfl rfl rfl ?_
    | refine TM_val (rr_loadB (i := 0) TyC.ty rfl rfl rfl) rfl rfl rfl ?_
    | refine TM_val (rr_loadB (i := 1) TyC.ty rfl rfl rfl) rfl rfl rfl ?_
    | refine TM_val (rr_loadB (i := 2) TyC.ty rfl rfl rfl) rfl rfl rfl ?_
    | refine TM_val (rr_pickT rfl rfl) rfl rfl rfl ?_
    | refine TM_val (rr_pickF rfl rfl) rfl rfl rfl ?_
    | refine TM_skip rfl rfl rfl rfl rfl rfl ?_
    | refine TM_gval (rr_loadB (i := 0) TyC.ty rfl rfl rfl) rfl rfl rfl rfl rfl ?_
    | refine TM_gval (rr_loadB (i := 1) TyC.ty rfl rfl rfl) rfl rfl rfl rfl rfl ?_
    | refine TM_gval (rr_loadB (i := 2) TyC.ty rfl rfl rfl) rfl rfl rfl rfl rfl ?_
    | refine TM_gval (rr_move rfl) rfl rfl rfl rfl rfl ?_
    | refine TM_end ?_)
  refine TM_gcall (he2 EntersC.en rfl rfl rfl) (fun w hm => meetE (c.join d) (c.join e) _) rfl rfl rfl rfl rfl ?_
  repeat (first
    | refine TM_val (rr_move rfl) rfl rfl rfl ?_
    | refine TM_val (rr_assign rfl) rfl rfl rfl ?_
    | refine TM_val (rr_loadB (i := 0) TyC.ty rfl rfl rfl) rfl rfl rfl ?_
    | refine TM_val (rr_loadB (i := 1) TyC.ty rfl rfl rfl) rfl rfl rfl ?_
    | refine TM_val (rr_loadB (i := 2) TyC.ty rfl rfl rfl) rfl rfl rfl ?_
    | refine TM_val (rr_aggeq (b := true) rfl rfl (by kernel_rfl) (same_cls (law4 c d e))) rfl rfl rfl ?_
    | refine TM_val (rr_pickT rfl rfl) rfl rfl rfl ?_
    | refine TM_val (rr_pickF rfl rfl) rfl rfl rfl ?_
    | refine TM_skip rfl rfl rfl rfl rfl rfl ?_
    | refine TM_gval (rr_loadB (i := 0) TyC.ty rfl rfl rfl) rfl rfl rfl rfl rfl ?_
    | refine TM_gval (rr_loadB (i := 1) TyC.ty rfl rfl rfl) rfl rfl rfl rfl rfl ?_
    | refine TM_gval (rr_loadB (i := 2) TyC.ty rfl rfl rfl) rfl rfl rfl rfl rfl ?_
    | refine TM_gval (rr_aggeq (b := true) rfl rfl (by kernel_rfl) (same_cls (law4 c d e))) rfl rfl rfl rfl rfl ?_
    | refine TM_gval (rr_move rfl) rfl rfl rfl rfl rfl ?_
    | refine TM_end ?_)
  refine TM_gcall (he2 EntersC.en rfl rfl rfl) (fun w hm => meetE c d _) rfl rfl rfl rfl rfl ?_
  repeat (first
    | refine TM_val (rr_move rfl) rfl rfl rfl ?_
    | refine TM_val (rr_assign rfl) rfl rfl rfl ?_
    | refine TM_val (rr_loadB (i := 0) TyC.ty rfl rfl rfl) rfl rfl rfl ?_
    | refine TM_val (rr_loadB (i := 1) TyC.ty rfl rfl rfl) rfl rfl rfl ?_
    | refine TM_val (rr_loadB (i := 2) TyC.ty rfl rfl rfl) rfl rfl rfl ?_
    | refine TM_val (rr_pickT rfl rfl) rfl rfl rfl ?_
    | refine TM_val (rr_pickF rfl rfl) rfl rfl rfl ?_
    | refine TM_skip rfl rfl rfl rfl rfl rfl ?_
    | refine TM_gval (rr_loadB (i := 0) TyC.ty rfl rfl rfl) rfl rfl rfl rfl rfl ?_
    | refine TM_gval (rr_loadB (i := 1) TyC.ty rfl rfl rfl) rfl rfl rfl rfl rfl ?_
    | refine TM_gval (rr_loadB (i := 2) TyC.ty rfl rfl rfl) rfl rfl rfl rfl rfl ?_
    | refine TM_gval (rr_move rfl) rfl rfl rfl rfl rfl ?_
    | refine TM_end ?_)
  refine TM_gcall (he2 EntersC.en rfl rfl rfl) (fun w hm => joinE c (c.meet d) _) rfl rfl rfl rfl rfl ?_
  repeat (first
    | refine TM_val (rr_move rfl) rfl rfl rfl ?_
    | refine TM_val (rr_assign rfl) rfl rfl rfl ?_
    | refine TM_val (rr_loadB (i := 0) TyC.ty rfl rfl rfl) rfl rfl rfl ?_
    | refine TM_val (rr_loadB (i := 1) TyC.ty rfl rfl rfl) rfl rfl rfl ?_
    | refine TM_val (rr_loadB (i := 2) TyC.ty rfl rfl rfl) rfl rfl rfl ?_
    | refine TM_val (rr_aggeq (b := true) rfl rfl (by kernel_rfl) (same_cls (law5 c d))) rfl rfl rfl ?_
    | refine TM_val (rr_pickT rfl rfl) rfl rfl rfl ?_
    | refine TM_val (rr_pickF rfl rfl) rfl rfl rfl ?_
    | refine TM_skip rfl rfl rfl rfl rfl rfl ?_
    | refine TM_gval (rr_loadB (i := 0) TyC.ty rfl rfl rfl) rfl rfl rfl rfl rfl ?_
    | refine TM_gval (rr_loadB (i := 1) TyC.ty rfl rfl rfl) rfl rfl rfl rfl rfl ?_
    | refine TM_gval (rr_loadB (i := 2) TyC.ty rfl rfl rfl) rfl rfl rfl rfl rfl ?_
    | refine TM_gval (rr_aggeq (b := true) rfl rfl (by kernel_rfl) (same_cls (law5 c d))) rfl rfl rfl rfl rfl ?_
    | refine TM_gval (rr_move rfl) rfl rfl rfl rfl rfl ?_
    | refine TM_end ?_)
  refine TM_gcall (he1 EntersC.en rfl rfl) (fun w hm => notE c _) rfl rfl rfl rfl rfl ?_
  repeat (first
    | refine TM_val (rr_move rfl) rfl rfl rfl ?_
    | refine TM_val (rr_assign rfl) rfl rfl rfl ?_
    | refine TM_val (rr_loadB (i := 0) TyC.ty rfl rfl rfl) rfl rfl rfl ?_
    | refine TM_val (rr_loadB (i := 1) TyC.ty rfl rfl rfl) rfl rfl rfl ?_
    | refine TM_val (rr_loadB (i := 2) TyC.ty rfl rfl rfl) rfl rfl rfl ?_
    | refine TM_val (rr_pickT rfl rfl) rfl rfl rfl ?_
    | refine TM_val (rr_pickF rfl rfl) rfl rfl rfl ?_
    | refine TM_skip rfl rfl rfl rfl rfl rfl ?_
    | refine TM_gval (rr_loadB (i := 0) TyC.ty rfl rfl rfl) rfl rfl rfl rfl rfl ?_
    | refine TM_gval (rr_loadB (i := 1) TyC.ty rfl rfl rfl) rfl rfl rfl rfl rfl ?_
    | refine TM_gval (rr_loadB (i := 2) TyC.ty rfl rfl rfl) rfl rfl rfl rfl rfl ?_
    | refine TM_gval (rr_move rfl) rfl rfl rfl rfl rfl ?_
    | refine TM_end ?_)
  refine TM_gcall (he2 EntersC.en rfl rfl rfl) (fun w hm => joinE c c.not _) rfl rfl rfl rfl rfl ?_
  repeat (first
    | refine TM_val (rr_move rfl) rfl rfl rfl ?_
    | refine TM_val (rr_assign rfl) rfl rfl rfl ?_
    | refine TM_val (rr_loadB (i := 0) TyC.ty rfl rfl rfl) rfl rfl rfl ?_
    | refine TM_val (rr_loadB (i := 1) TyC.ty rfl rfl rfl) rfl rfl rfl ?_
    | refine TM_val (rr_loadB (i := 2) TyC.ty rfl rfl rfl) rfl rfl rfl ?_
    | refine TM_val (rr_pickT rfl rfl) rfl rfl rfl ?_
    | refine TM_val (rr_pickF rfl rfl) rfl rfl rfl ?_
    | refine TM_skip rfl rfl rfl rfl rfl rfl ?_
    | refine TM_gval (rr_loadB (i := 0) TyC.ty rfl rfl rfl) rfl rfl rfl rfl rfl ?_
    | refine TM_gval (rr_loadB (i := 1) TyC.ty rfl rfl rfl) rfl rfl rfl rfl rfl ?_
    | refine TM_gval (rr_loadB (i := 2) TyC.ty rfl rfl rfl) rfl rfl rfl rfl rfl ?_
    | refine TM_gval (rr_move rfl) rfl rfl rfl rfl rfl ?_
    | refine TM_end ?_)
  refine TM_gcall (he2 EntersC.en rfl rfl rfl) (fun w hm => hr255 _) rfl rfl rfl rfl rfl ?_
  repeat (first
    | refine TM_val (rr_move rfl) rfl rfl rfl ?_
    | refine TM_val (rr_assign rfl) rfl rfl rfl ?_
    | refine TM_val (rr_loadB (i := 0) TyC.ty rfl rfl rfl) rfl rfl rfl ?_
    | refine TM_val (rr_loadB (i := 1) TyC.ty rfl rfl rfl) rfl rfl rfl ?_
    | refine TM_val (rr_loadB (i := 2) TyC.ty rfl rfl rfl) rfl rfl rfl ?_
    | refine TM_val (rr_aggeq (b := true) rfl rfl (by kernel_rfl) (same_cls h6)) rfl rfl rfl ?_
    | refine TM_val (rr_pickT rfl rfl) rfl rfl rfl ?_
    | refine TM_val (rr_pickF rfl rfl) rfl rfl rfl ?_
    | refine TM_skip rfl rfl rfl rfl rfl rfl ?_
    | refine TM_gval (rr_loadB (i := 0) TyC.ty rfl rfl rfl) rfl rfl rfl rfl rfl ?_
    | refine TM_gval (rr_loadB (i := 1) TyC.ty rfl rfl rfl) rfl rfl rfl rfl rfl ?_
    | refine TM_gval (rr_loadB (i := 2) TyC.ty rfl rfl rfl) rfl rfl rfl rfl rfl ?_
    | refine TM_gval (rr_aggeq (b := true) rfl rfl (by kernel_rfl) (same_cls h6)) rfl rfl rfl rfl rfl ?_
    | refine TM_gval (rr_move rfl) rfl rfl rfl rfl rfl ?_
    | refine TM_end ?_)
  refine TM_gcall (he1 EntersC.en rfl rfl) (fun w hm => notE c _) rfl rfl rfl rfl rfl ?_
  repeat (first
    | refine TM_val (rr_move rfl) rfl rfl rfl ?_
    | refine TM_val (rr_assign rfl) rfl rfl rfl ?_
    | refine TM_val (rr_loadB (i := 0) TyC.ty rfl rfl rfl) rfl rfl rfl ?_
    | refine TM_val (rr_loadB (i := 1) TyC.ty rfl rfl rfl) rfl rfl rfl ?_
    | refine TM_val (rr_loadB (i := 2) TyC.ty rfl rfl rfl) rfl rfl rfl ?_
    | refine TM_val (rr_pickT rfl rfl) rfl rfl rfl ?_
    | refine TM_val (rr_pickF rfl rfl) rfl rfl rfl ?_
    | refine TM_skip rfl rfl rfl rfl rfl rfl ?_
    | refine TM_gval (rr_loadB (i := 0) TyC.ty rfl rfl rfl) rfl rfl rfl rfl rfl ?_
    | refine TM_gval (rr_loadB (i := 1) TyC.ty rfl rfl rfl) rfl rfl rfl rfl rfl ?_
    | refine TM_gval (rr_loadB (i := 2) TyC.ty rfl rfl rfl) rfl rfl rfl rfl rfl ?_
    | refine TM_gval (rr_move rfl) rfl rfl rfl rfl rfl ?_
    | refine TM_end ?_)
  refine TM_gcall (he2 EntersC.en rfl rfl rfl) (fun w hm => meetE c c.not _) rfl rfl rfl rfl rfl ?_
  repeat (first
    | refine TM_val (rr_move rfl) rfl rfl rfl ?_
    | refine TM_val (rr_assign rfl) rfl rfl rfl ?_
    | refine TM_val (rr_loadB (i := 0) TyC.ty rfl rfl rfl) rfl rfl rfl ?_
    | refine TM_val (rr_loadB (i := 1) TyC.ty rfl rfl rfl) rfl rfl rfl ?_
    | refine TM_val (rr_loadB (i := 2) TyC.ty rfl rfl rfl) rfl rfl rfl ?_
    | refine TM_val (rr_build rfl hbz) rfl rfl rfl ?_
    | refine TM_val (rr_aggeq (b := true) rfl rfl (by kernel_rfl) (same_cls h7)) rfl rfl rfl ?_
    | refine TM_val (rr_pickT rfl rfl) rfl rfl rfl ?_
    | refine TM_val (rr_pickF rfl rfl) rfl rfl rfl ?_
    | refine TM_skip rfl rfl rfl rfl rfl rfl ?_
    | refine TM_gval (rr_loadB (i := 0) TyC.ty rfl rfl rfl) rfl rfl rfl rfl rfl ?_
    | refine TM_gval (rr_loadB (i := 1) TyC.ty rfl rfl rfl) rfl rfl rfl rfl rfl ?_
    | refine TM_gval (rr_loadB (i := 2) TyC.ty rfl rfl rfl) rfl rfl rfl rfl rfl ?_
    | refine TM_gval (rr_build rfl hbz) rfl rfl rfl rfl rfl ?_
    | refine TM_gval (rr_aggeq (b := true) rfl rfl (by kernel_rfl) (same_cls h7)) rfl rfl rfl rfl rfl ?_
    | refine TM_gval (rr_move rfl) rfl rfl rfl rfl rfl ?_
    | refine TM_end ?_)
  repeat (first
    | refine TL_val (rr_move rfl) rfl rfl rfl ?_
    | refine TL_val (rr_assign rfl) rfl rfl rfl ?_
    | refine TL_nil ?_
    | refine T_seq ?_
    | refine T_region ?_
    | refine T_condT rfl ?_
    | refine T_condF rfl ?_
    | refine T_skip ?_
    | refine T_ret ?_
    | refine E_then ?_
    | refine E_thenR ?_
    | refine TL_val (rr_pickT rfl rfl) rfl rfl rfl ?_
    | refine TL_val (rr_pickF rfl rfl) rfl rfl rfl ?_
    | refine TL_skip rfl rfl rfl rfl rfl rfl ?_
    | refine TL_gval (rr_move rfl) rfl rfl rfl rfl rfl ?_)
  exact E_ret1 rfl rfl fun w hm => hm.ret
end Go.Proofs.Ytbgamboahifnoaa.classSets
