/- What trees.Down, Up compute. -/
import Derived.Test.YtnicebdkejkieaaTreeE
import Derived.Test.YtnicebdkejkieaaTreeC
import Derived.Test.YtnicebdkejkieaaEachF
namespace Go.Proofs.Ytnicebdkejkieaa.eng
open Go.RowKit kit mix gramL treeL
instance : TyC Try.prog 120 false 1 := ⟨Ty.of (by kernel_rfl)⟩
instance : ZeroC Try.prog 120 #[.nilFunc] := ⟨by kernel_rfl⟩
theorem build_ev (k q : Int) (w : World) : (Instr.build 78 #[(0, .int .i64 k), (1, .int .i64 q)]).run Try.prog w = .ok (.agg #[.int .i64 k, .int .i64 q]) w := by
  go_simp
def eO1 (g : Nat) (_ : List Sym) (z : Value) : Own := blkO g #[z] 75
def eO2 (s : List Sym) (z : Value) : Own := rowO 78 2 z s.length (s.flatMap symC)
def eS (l : List Sym) : Spec Value := rowS 78 2 l.length (l.flatMap symC) fun v => .tuple #[v, .int .i64 0]
theorem putDown_calls (g gb : Nat) (kind n : Int) (s : List Sym) (z : Value) (w : World) (B : Base) (Y1 Y2 Y3 : Own) (i : Nat) (hi : ∀ a b, ([a, b, Y1, Y2, Y3] : List Own)[i]? = some (blkO gb #[.int .i64 kind] 3)) (hs : s.length ≤ 100000) (hm : Mem B [eO1 g s z, eO2 s z, Y1, Y2, Y3] w) :
    Calls Try.prog 76 #[.int .i64 n, .pointer (some ⟨g, 0, none⟩), .pointer (some ⟨gb, 0, none⟩)] w (MeetsB ⟨fun (_ : Value) => True, fun _ => .tuple #[], fun z' => [eO1 g (s ++ [(kind, n)]) z', eO2 (s ++ [(kind, n)]) z', Y1, Y2, Y3]⟩ B) := by
  refine enterB hm (args := [.int .i64 n, .pointer (some ⟨g, 0, none⟩), .pointer (some ⟨gb, 0, none⟩)]) (n := 10) Try.func76 rfl rfl rfl ?_
  repeat (first
    | refine qv rfl (qp rfl) rfl rfl ?_ | refine TL_nil ?_ | refine T_region ?_ | refine qv rfl (rr_load1 TyC.ty rfl (at_blk (i := 0) rfl rfl)) rfl rfl ?_
    | refine qv rfl (rr_load1 TyC.ty rfl (at_blk (i := i) (hi _ _) rfl)) rfl rfl ?_ | refine qv rfl (rr_build rfl (build_ev _ _)) rfl rfl ?_)
  refine TL_pushN (i := 1) rfl rfl rfl rfl rfl rfl rfl (fun z h => by cases h; rfl) (by omega) (by omega) rfl fun z' v' => ?_
  conv => arg 8; simp only [zA, zB, zC, zD, zE, zF, zG, zH, zI, rowS, ret, id_eq]
  refine TL_slv (i := 1) rfl fun hv1 hv2 => ?_
  refine TL_store1 (i := 0) rfl rfl rfl hv1 hv2 rfl ?_
  conv => arg 8; simp only [zA, zB, zC, zD, zE, zF, zG, zH, zI, rowS, ret, id_eq]
  repeat (first
    | refine qv rfl (qp rfl) rfl rfl ?_ | refine TL_nil ?_ | refine T_region ?_)
  exact E_end0 rfl fun w hm => hm.meetsB (S := ⟨fun (_ : Value) => True, fun _ => .tuple #[], fun z' => [eO1 g (s ++ [(kind, n)]) z', eO2 (s ++ [(kind, n)]) z', Y1, Y2, Y3]⟩) v' trivial [0, 1, 2, 3, 4] (by decide) (by simp [eO1, eO2, symC])
theorem kindDown_calls (g : Nat) (kind : Int) (w : World) : Calls Try.prog 75 #[.int .i64 kind, .pointer (some ⟨g, 0, none⟩)] w (Meets ⟨fun (_ : Nat) => True, fun gb => .func (.func 76) #[] #[.pointer (some ⟨g, 0, none⟩), .pointer (some ⟨gb, 0, none⟩)], fun gb => [blkO gb #[.int .i64 kind] 3]⟩ w) := by
  refine enter (args := [.int .i64 kind, .pointer (some ⟨g, 0, none⟩)]) (n := 5) Try.func75 rfl rfl rfl ?_
  refine T_seq (T_region (TL_box rfl rfl rfl fun gb => ?_))
  conv => arg 8; simp only [zA, zB, zC, zD, zE, zF, zG, zH, zI, rowS, ret, id_eq]
  repeat (first
    | refine qv rfl (qp rfl) rfl rfl ?_ | refine TL_nil ?_ | refine T_seq ?_ | refine T_region ?_ | refine T_ret ?_ | refine E_then ?_ | refine E_thenR ?_
    | refine qv rfl (rr_func rfl rfl) rfl rfl ?_)
  exact E_ret1 rfl rfl fun w hm => hm.meets (S := ⟨fun (_ : Nat) => True, fun gb => .func (.func 76) #[] #[.pointer (some ⟨g, 0, none⟩), .pointer (some ⟨gb, 0, none⟩)], fun gb => [blkO gb #[.int .i64 kind] 3]⟩) gb trivial [0] (by decide) rfl
theorem leafDown_calls (g g8 : Nat) (p q : Int) (s : List Sym) (z : Value) (w : World) (B : Base) (Y2 Y3 : Own) (hs : s.length ≤ 100000) (hm : Mem B [eO1 g s z, eO2 s z, blkO g8 #[.func (.func 75) #[] #[.pointer (some ⟨g, 0, none⟩)]] 120, Y2, Y3] w) :
    Calls Try.prog 77 #[.int .i64 p, .int .i64 q, .pointer (some ⟨g8, 0, none⟩)] w (MeetsB ⟨fun (_ : Value) => True, fun _ => .tuple #[], fun z' => [eO1 g (s ++ [(2, q)]) z', eO2 (s ++ [(2, q)]) z', blkO g8 #[.func (.func 75) #[] #[.pointer (some ⟨g, 0, none⟩)]] 120, Y2, Y3]⟩ B) := by
  refine enterB hm (args := [.int .i64 p, .int .i64 q, .pointer (some ⟨g8, 0, none⟩)]) (n := 9) Try.func77 rfl rfl rfl ?_
  repeat (first
    | refine qv rfl (qp rfl) rfl rfl ?_ | refine TL_nil ?_ | refine T_region ?_ | refine qv rfl (rr_load1 TyC.ty rfl (at_blk (i := 2) rfl rfl)) rfl rfl ?_)
  refine TL_call (he1c EntersC.en rfl rfl) (fun w hm => kindDown_calls g 2 w) rfl rfl rfl ?_
  intro gb _
  conv => arg 8; simp only [zA, zB, zC, zD, zE, zF, zG, zH, zI, rowS, ret, id_eq]
  repeat (first
    | refine qv rfl (qp rfl) rfl rfl ?_ | refine TL_nil ?_ | refine T_region ?_)
  refine TL_callB [0, 1, 5, 2, 3] [4] (by decide) rfl rfl (he1c EntersC.en rfl rfl) (fun w hm hb => putDown_calls g gb 2 q s z w _ _ _ _ 2 (fun _ _ => rfl) hs hb) rfl rfl rfl ?_
  intro z' _
  conv => arg 8; simp only [zA, zB, zC, zD, zE, zF, zG, zH, zI, rowS, ret, id_eq]
  repeat (first
    | refine qv rfl (qp rfl) rfl rfl ?_ | refine TL_nil ?_ | refine T_region ?_)
  exact E_end0 rfl fun w hm => hm.meetsB (S := ⟨fun (_ : Value) => True, fun _ => .tuple #[], fun z' => [eO1 g (s ++ [(2, q)]) z', eO2 (s ++ [(2, q)]) z', blkO g8 #[.func (.func 75) #[] #[.pointer (some ⟨g, 0, none⟩)]] 120, Y2, Y3]⟩) z' trivial [1, 2, 4, 5, 0] (by decide) rfl
theorem putUp_calls (g gb : Nat) (kind n : Int) (s : List Sym) (z : Value) (w : World) (B : Base) (Y1 Y2 Y3 : Own) (i : Nat) (hi : ∀ a b, ([a, b, Y1, Y2, Y3] : List Own)[i]? = some (blkO gb #[.int .i64 kind] 3)) (hs : s.length ≤ 100000) (hm : Mem B [eO1 g s z, eO2 s z, Y1, Y2, Y3] w) :
    Calls Try.prog 73 #[.int .i64 n, .pointer (some ⟨g, 0, none⟩), .pointer (some ⟨gb, 0, none⟩)] w (MeetsB ⟨fun (_ : Value) => True, fun _ => .tuple #[], fun z' => [eO1 g (s ++ [(kind, n)]) z', eO2 (s ++ [(kind, n)]) z', Y1, Y2, Y3]⟩ B) := by
  refine enterB hm (args := [.int .i64 n, .pointer (some ⟨g, 0, none⟩), .pointer (some ⟨gb, 0, none⟩)]) (n := 10) Try.func73 rfl rfl rfl ?_
  repeat (first
    | refine qv rfl (qp rfl) rfl rfl ?_ | refine TL_nil ?_ | refine T_region ?_ | refine qv rfl (rr_load1 TyC.ty rfl (at_blk (i := 0) rfl rfl)) rfl rfl ?_
    | refine qv rfl (rr_load1 TyC.ty rfl (at_blk (i := i) (hi _ _) rfl)) rfl rfl ?_ | refine qv rfl (rr_build rfl (build_ev _ _)) rfl rfl ?_)
  refine TL_pushN (i := 1) rfl rfl rfl rfl rfl rfl rfl (fun z h => by cases h; rfl) (by omega) (by omega) rfl fun z' v' => ?_
  conv => arg 8; simp only [zA, zB, zC, zD, zE, zF, zG, zH, zI, rowS, ret, id_eq]
  refine TL_slv (i := 1) rfl fun hv1 hv2 => ?_
  refine TL_store1 (i := 0) rfl rfl rfl hv1 hv2 rfl ?_
  conv => arg 8; simp only [zA, zB, zC, zD, zE, zF, zG, zH, zI, rowS, ret, id_eq]
  repeat (first
    | refine qv rfl (qp rfl) rfl rfl ?_ | refine TL_nil ?_ | refine T_region ?_)
  exact E_end0 rfl fun w hm => hm.meetsB (S := ⟨fun (_ : Value) => True, fun _ => .tuple #[], fun z' => [eO1 g (s ++ [(kind, n)]) z', eO2 (s ++ [(kind, n)]) z', Y1, Y2, Y3]⟩) v' trivial [0, 1, 2, 3, 4] (by decide) (by simp [eO1, eO2, symC])
theorem kindUp_calls (g : Nat) (kind : Int) (w : World) : Calls Try.prog 72 #[.int .i64 kind, .pointer (some ⟨g, 0, none⟩)] w (Meets ⟨fun (_ : Nat) => True, fun gb => .func (.func 73) #[] #[.pointer (some ⟨g, 0, none⟩), .pointer (some ⟨gb, 0, none⟩)], fun gb => [blkO gb #[.int .i64 kind] 3]⟩ w) := by
  refine enter (args := [.int .i64 kind, .pointer (some ⟨g, 0, none⟩)]) (n := 5) Try.func72 rfl rfl rfl ?_
  refine T_seq (T_region (TL_box rfl rfl rfl fun gb => ?_))
  conv => arg 8; simp only [zA, zB, zC, zD, zE, zF, zG, zH, zI, rowS, ret, id_eq]
  repeat (first
    | refine qv rfl (qp rfl) rfl rfl ?_ | refine TL_nil ?_ | refine T_seq ?_ | refine T_region ?_ | refine T_ret ?_ | refine E_then ?_ | refine E_thenR ?_
    | refine qv rfl (rr_func rfl rfl) rfl rfl ?_)
  exact E_ret1 rfl rfl fun w hm => hm.meets (S := ⟨fun (_ : Nat) => True, fun gb => .func (.func 73) #[] #[.pointer (some ⟨g, 0, none⟩), .pointer (some ⟨gb, 0, none⟩)], fun gb => [blkO gb #[.int .i64 kind] 3]⟩) gb trivial [0] (by decide) rfl
theorem leafUp_calls (g g8 : Nat) (p q : Int) (s : List Sym) (z : Value) (w : World) (B : Base) (Y2 Y3 : Own) (hs : s.length ≤ 100000) (hm : Mem B [eO1 g s z, eO2 s z, blkO g8 #[.func (.func 72) #[] #[.pointer (some ⟨g, 0, none⟩)]] 120, Y2, Y3] w) :
    Calls Try.prog 74 #[.int .i64 p, .int .i64 q, .pointer (some ⟨g8, 0, none⟩)] w (MeetsB ⟨fun (_ : Value) => True, fun _ => .tuple #[], fun z' => [eO1 g (s ++ [(2, q)]) z', eO2 (s ++ [(2, q)]) z', blkO g8 #[.func (.func 72) #[] #[.pointer (some ⟨g, 0, none⟩)]] 120, Y2, Y3]⟩ B) := by
  refine enterB hm (args := [.int .i64 p, .int .i64 q, .pointer (some ⟨g8, 0, none⟩)]) (n := 9) Try.func74 rfl rfl rfl ?_
  repeat (first
    | refine qv rfl (qp rfl) rfl rfl ?_ | refine TL_nil ?_ | refine T_region ?_ | refine qv rfl (rr_load1 TyC.ty rfl (at_blk (i := 2) rfl rfl)) rfl rfl ?_)
  refine TL_call (he1c EntersC.en rfl rfl) (fun w hm => kindUp_calls g 2 w) rfl rfl rfl ?_
  intro gb _
  conv => arg 8; simp only [zA, zB, zC, zD, zE, zF, zG, zH, zI, rowS, ret, id_eq]
  repeat (first
    | refine qv rfl (qp rfl) rfl rfl ?_ | refine TL_nil ?_ | refine T_region ?_)
  refine TL_callB [0, 1, 5, 2, 3] [4] (by decide) rfl rfl (he1c EntersC.en rfl rfl) (fun w hm hb => putUp_calls g gb 2 q s z w _ _ _ _ 2 (fun _ _ => rfl) hs hb) rfl rfl rfl ?_
  intro z' _
  conv => arg 8; simp only [zA, zB, zC, zD, zE, zF, zG, zH, zI, rowS, ret, id_eq]
  repeat (first
    | refine qv rfl (qp rfl) rfl rfl ?_ | refine TL_nil ?_ | refine T_region ?_)
  exact E_end0 rfl fun w hm => hm.meetsB (S := ⟨fun (_ : Value) => True, fun _ => .tuple #[], fun z' => [eO1 g (s ++ [(2, q)]) z', eO2 (s ++ [(2, q)]) z', blkO g8 #[.func (.func 72) #[] #[.pointer (some ⟨g, 0, none⟩)]] 120, Y2, Y3]⟩) z' trivial [1, 2, 4, 5, 0] (by decide) rfl
end Go.Proofs.Ytnicebdkejkieaa.eng
