/- What count.row computes. -/
import Derived.Test.YtnicebdkejkieaaCountA
namespace Go.Proofs.Ytnicebdkejkieaa.eng
open Go.RowKit kit mix gramL countL
def natV (n : Nat) : Value := .int .i64 (n : Int)
def rowT (g len : Nat) (f : Nat → Nat) : Own := rowO 3 1 (.slice (some ⟨g, 0, none⟩) len len) len ((tab len f).map natV)
theorem at_tab {W : Base} {L : List Own} {i g len k : Nat} {f : Nat → Nat} (hi : L[i]? = some (rowT g len f)) (hk : k < len) : At W L ⟨g, 0 + k, none⟩ (natV (f k)) := at_row hi (by rw [Nat.zero_add, List.getElem?_map, tab_get f hk]; rfl)
theorem rowT_set {g len k v : Nat} {f f' : Nat → Nat} (h : ∀ i, i < len → f' i = if i = k then v else f i) : rowO 3 1 (.slice (some ⟨g, 0, none⟩) len len) len (((tab len f).map natV).set k (natV v)) = rowT g len f' := by
  unfold rowT
  rw [← List.map_set, tab_set f f' k v h]
theorem tab_const (len : Nat) : (tab len fun _ => 0).map natV = List.replicate len (.int .i64 0) := by
  unfold tab
  rw [List.map_map]
  apply List.ext_getElem?
  intro i
  by_cases h : i < len <;> simp [h, natV]
theorem TL_storeT {P : Program} {n : Nat} {W : Base} {fr : Fr} {L : List Own} {Q : Exit → Act → World → Prop} {ops : Array Oper} {rest : List Oper} {ty : TypeId} {pos : String} {after : Array Edge} {t : TypeId} {p x : Operand} {i g off len v : Nat} {f : Nat → Nat} (f' : Nat → Nat) (hT : Ty P t false 1) (hi : L[i]? = some (rowT g len f)) (hp : ev fr p = some (.pointer (some ⟨g, 0 + off, none⟩))) (hx : ev fr x = some (natV v)) (hk : off < len) (hf : ∀ i, i < len → f' i = if i = off then v else f i)
    (h : TL P n W ops Q rest fr (L.set i (rowT g len f'))) : TL P n W ops Q (⟨none, .store t p x, ty, pos, after, none⟩ :: rest) fr L :=
  TL_storeRow hT hi hp hx rfl rfl rfl (by rw [List.length_map, tab_len, Nat.zero_add]; exact hk) (by rw [Nat.zero_add, rowT_set hf]; exact h)
theorem atMostN_calls (m : Nat) (w : World) : Calls Try.prog 94 #[.int .i64 (m : Int)] w (Meets (ret (natV (min m 2))) w) := by
  have h := atMost_calls (m : Int) w
  rw [show min (m : Int) 2 = ((min m 2 : Nat) : Int) by omega] at h
  exact h
set_option maxHeartbeats 4000000 in
theorem row_calls (gc gm : Nat) (t n : Int) (vp vw vb : Value) (word : List Int) (c : Chart) (B : Nat) (body : List Sym) (a b : Nat) (w : World) (h : ChR w gc gm t n vp vw word c B) (hs : Sl w vb body.length (body.flatMap symC)) (hok : ∀ x ∈ body, kit.okI64 x.2) (hc : ∀ x, c x ≤ 2) (hab : a ≤ b) (hb : b ≤ word.length) (hw : word.length ≤ 20) :
    Calls Try.prog 89 #[.pointer (some ⟨gc, 0, none⟩), vb, .int .i64 (a : Int), .int .i64 (b : Int)] w (Meets (ret (.int .i64 (rowF (oneF c word) body a b : Nat))) w) := by
  have hone := fun x a' b' w' (hg : Gr w w') => one_calls gc gm t n vp vw word c B x a' b' w' (h.gr hg)
  obtain ⟨bb, cb, rfl, h4, h5, h6⟩ := hs
  unfold maxLen at h5
  obtain ⟨d, rfl⟩ : ∃ d, b = a + d := ⟨b - a, by omega⟩
  have ho := oneF_le hc word
  unfold rowF
  rw [show a + d - a = d by omega]
  generalize oneF c word = o at *
  refine enter (args := [.pointer (some ⟨gc, 0, none⟩), .slice bb body.length cb, .int .i64 (a : Int), .int .i64 ((a + d : Nat) : Int)]) (n := 79) Try.func89 rfl rfl rfl ?_
  repeat (first
    | refine qv rfl (qp rfl) rfl rfl ?_ | refine TL_nil ?_ | refine T_seq ?_ | refine T_region ?_ | refine qcT rfl ?_ | refine qcF rfl ?_ | refine T_skip ?_
    | refine T_exit ?_ | refine T_ret ?_ | refine T_block ?_ | refine E_then ?_ | refine E_thenX ?_ | refine E_thenR ?_ | refine E_blockN ?_
    | refine E_blockR ?_ | refine E_blockX ?_ | refine E_blockO rfl ?_ | refine qs rfl rfl rfl rfl rfl rfl ?_
    | ((try refine qg rfl rfl rfl ?_); first | refine qv rfl (qp rfl) rfl rfl ?_ | refine qv rfl (rr_sub64 (r := (d : Int)) rfl rfl (by omega) (by omega) (by omega)) rfl rfl ?_ | refine qv rfl (rr_add64 (r := ((d + 1 : Nat) : Int)) rfl rfl (by omega) (by omega) (by omega)) rfl rfl ?_ | refine qv rfl (qlen Und.eq rfl) rfl rfl ?_ | refine qv rfl (rr_lss rfl rfl (qT (by omega))) rfl rfl ?_ | refine qv rfl (rr_lss rfl rfl (qF (by omega))) rfl rfl ?_ | refine qv rfl (rr_add64 rfl rfl (by omega) (by omega) rfl) rfl rfl ?_ | refine qv rfl (rr_sub64 rfl rfl (by omega) (by omega) rfl) rfl rfl ?_ | refine qv rfl (rr_mul64 rfl rfl (by omega) (by omega) rfl) rfl rfl ?_ | refine qv rfl (rr_gtr rfl rfl (qT (by omega))) rfl rfl ?_ | refine qv rfl (rr_gtr rfl rfl (qF (by omega))) rfl rfl ?_))
  refine TL_makeRow rfl rfl (by omega) (by omega) rfl fun g0 => ?_
  rw [← tab_const]
  repeat (first
    | refine qv rfl (qp rfl) rfl rfl ?_ | refine TL_nil ?_ | refine T_seq ?_ | refine T_region ?_ | refine qcT rfl ?_ | refine qcF rfl ?_ | refine T_skip ?_
    | refine T_exit ?_ | refine T_ret ?_ | refine T_block ?_ | refine E_then ?_ | refine E_thenX ?_ | refine E_thenR ?_ | refine E_blockN ?_
    | refine E_blockR ?_ | refine E_blockX ?_ | refine E_blockO rfl ?_ | refine qs rfl rfl rfl rfl rfl rfl ?_
    | ((try refine qg rfl rfl rfl ?_); first | refine qv rfl (qp rfl) rfl rfl ?_ | refine qv rfl (rr_idx1 (j := 0) Und.eq TyC.ty rfl rfl (by omega)) rfl rfl ?_ | refine qv rfl (qlen Und.eq rfl) rfl rfl ?_ | refine qv rfl (rr_lss rfl rfl (qT (by omega))) rfl rfl ?_ | refine qv rfl (rr_lss rfl rfl (qF (by omega))) rfl rfl ?_ | refine qv rfl (rr_add64 rfl rfl (by omega) (by omega) rfl) rfl rfl ?_ | refine qv rfl (rr_sub64 rfl rfl (by omega) (by omega) rfl) rfl rfl ?_ | refine qv rfl (rr_mul64 rfl rfl (by omega) (by omega) rfl) rfl rfl ?_ | refine qv rfl (rr_gtr rfl rfl (qT (by omega))) rfl rfl ?_ | refine qv rfl (rr_gtr rfl rfl (qF (by omega))) rfl rfl ?_))
  refine TL_storeT (i := 0) (len := d + 1) (f := fun _ => 0) (v := 1) ways0 TyC.ty rfl rfl rfl (by omega) (fun i _ => rfl) ?_
  conv => arg 8; simp only [zA, zB, zC, zD, zE, zF, zG, zH, zI, rowS, ret, id_eq]
  repeat (first
    | refine qv rfl (qp rfl) rfl rfl ?_ | refine TL_nil ?_ | refine T_seq ?_ | refine T_region ?_ | refine qcT rfl ?_ | refine qcF rfl ?_ | refine T_skip ?_
    | refine T_exit ?_ | refine T_ret ?_ | refine T_block ?_ | refine E_then ?_ | refine E_thenX ?_ | refine E_thenR ?_ | refine E_blockN ?_
    | refine E_blockR ?_ | refine E_blockX ?_ | refine E_blockO rfl ?_ | refine qs rfl rfl rfl rfl rfl rfl ?_
    | ((try refine qg rfl rfl rfl ?_); first | refine qv rfl (qp rfl) rfl rfl ?_ | refine qv rfl (qlen Und.eq rfl) rfl rfl ?_ | refine qv rfl (rr_lss rfl rfl (qT (by omega))) rfl rfl ?_ | refine qv rfl (rr_lss rfl rfl (qF (by omega))) rfl rfl ?_ | refine qv rfl (rr_add64 rfl rfl (by omega) (by omega) rfl) rfl rfl ?_ | refine qv rfl (rr_sub64 rfl rfl (by omega) (by omega) rfl) rfl rfl ?_ | refine qv rfl (rr_mul64 rfl rfl (by omega) (by omega) rfl) rfl rfl ?_ | refine qv rfl (rr_gtr rfl rfl (qT (by omega))) rfl rfl ?_ | refine qv rfl (rr_gtr rfl rfl (qF (by omega))) rfl rfl ?_))
  refine T_loop (ι := Nat × Nat × (Nat → Nat)) (fun (k, g, f) => k ≤ body.length ∧ (∀ b, f b ≤ 2) ∧ waysF o a (body.drop k) f d = waysF o a body ways0 d) (fun (k, g, f) => [(0, .pointer (some ⟨gc, 0, none⟩)), (2, .int .i64 (a : Int)), (3, .int .i64 ((a + d : Nat) : Int)), (9, .slice (some ⟨g, 0, none⟩) (d + 1) (d + 1)), (23, .slice bb body.length cb), (24, .int .i64 body.length), (25, .int .i64 (k : Int))])
    (fun (k, g, f) => [rowT g (d + 1) f]) (fun (k, _, _) => body.length - k) (0, g0, ways0) ⟨Nat.zero_le _, ways0_le, rfl⟩ (by repeat' (first | exact True.intro | refine And.intro rfl ?_)) rfl ?_
  rintro ⟨k, g, f⟩ ⟨i1, i2, i3⟩
  dsimp only at i1 i2 i3 ⊢
  rw [← i3]
  clear i3
  by_cases c6 : k < body.length
  · obtain ⟨b', off, rfl, hr⟩ := h6 (by omega)
    have hat := fun L => at_el (L := L) SymS_len hr c6
    have hokx := hok body[k] (List.getElem_mem c6)
    rw [List.drop_eq_getElem_cons c6, waysF]
    clear hr h6
    have hox := ho body[k]
    have hone := fun a' b' w' hg => hone body[k] a' b' w' hg hokx
    generalize body[k] = x at *
    obtain ⟨q, m⟩ := x
    repeat (first
      | refine qv rfl (qp rfl) rfl rfl ?_ | refine TL_nil ?_ | refine T_seq ?_ | refine T_region ?_ | refine qcT rfl ?_ | refine qcF rfl ?_ | refine T_skip ?_
      | refine T_exit ?_ | refine T_ret ?_ | refine T_block ?_ | refine E_then ?_ | refine E_thenX ?_ | refine E_thenR ?_ | refine E_blockN ?_
      | refine E_blockR ?_ | refine E_blockX ?_ | refine E_blockO rfl ?_ | refine qs rfl rfl rfl rfl rfl rfl ?_
      | ((try refine qg rfl rfl rfl ?_); first | refine qv rfl (qp rfl) rfl rfl ?_ | refine qv rfl (rr_idxc Und.eq TyC.ty rfl rfl c6) rfl rfl ?_ | refine qv rfl (rr_loadN TyC.ty rfl rfl (hat _)) rfl rfl ?_ | refine qv rfl (qlen Und.eq rfl) rfl rfl ?_ | refine qv rfl (rr_lss rfl rfl (qT (by omega))) rfl rfl ?_ | refine qv rfl (rr_lss rfl rfl (qF (by omega))) rfl rfl ?_ | refine qv rfl (rr_add64 rfl rfl (by omega) (by omega) rfl) rfl rfl ?_ | refine qv rfl (rr_sub64 rfl rfl (by omega) (by omega) rfl) rfl rfl ?_ | refine qv rfl (rr_mul64 rfl rfl (by omega) (by omega) rfl) rfl rfl ?_ | refine qv rfl (rr_gtr rfl rfl (qT (by omega))) rfl rfl ?_ | refine qv rfl (rr_gtr rfl rfl (qF (by omega))) rfl rfl ?_))
    refine TL_new rfl fun g11 => ?_
    refine TL_storeB (i := 1) rfl rfl rfl rfl rfl rfl ?_
    conv => arg 8; simp only [zA, zB, zC, zD, zE, zF, zG, zH, zI, rowS, ret, id_eq]
    repeat (first
      | refine qv rfl (qp rfl) rfl rfl ?_ | refine TL_nil ?_ | refine T_seq ?_ | refine T_region ?_ | refine qcT rfl ?_ | refine qcF rfl ?_ | refine T_skip ?_
      | refine T_exit ?_ | refine T_ret ?_ | refine T_block ?_ | refine E_then ?_ | refine E_thenX ?_ | refine E_thenR ?_ | refine E_blockN ?_
      | refine E_blockR ?_ | refine E_blockX ?_ | refine E_blockO rfl ?_ | refine qs rfl rfl rfl rfl rfl rfl ?_
      | ((try refine qg rfl rfl rfl ?_); first | refine qv rfl (qp rfl) rfl rfl ?_ | refine qv rfl (qlen Und.eq rfl) rfl rfl ?_ | refine qv rfl (rr_lss rfl rfl (qT (by omega))) rfl rfl ?_ | refine qv rfl (rr_lss rfl rfl (qF (by omega))) rfl rfl ?_ | refine qv rfl (rr_add64 rfl rfl (by omega) (by omega) rfl) rfl rfl ?_ | refine qv rfl (rr_sub64 rfl rfl (by omega) (by omega) rfl) rfl rfl ?_ | refine qv rfl (rr_mul64 rfl rfl (by omega) (by omega) rfl) rfl rfl ?_ | refine qv rfl (rr_gtr rfl rfl (qT (by omega))) rfl rfl ?_ | refine qv rfl (rr_gtr rfl rfl (qF (by omega))) rfl rfl ?_))
    refine TL_makeRow rfl rfl (by omega) (by omega) rfl fun g12 => ?_
    rw [← tab_const]
    conv => arg 8; simp only [zA, zB, zC, zD, zE, zF, zG, zH, zI, rowS, ret, id_eq]
    repeat (first
      | refine qv rfl (qp rfl) rfl rfl ?_ | refine TL_nil ?_ | refine T_seq ?_ | refine T_region ?_ | refine qcT rfl ?_ | refine qcF rfl ?_ | refine T_skip ?_
      | refine T_exit ?_ | refine T_ret ?_ | refine T_block ?_ | refine E_then ?_ | refine E_thenX ?_ | refine E_thenR ?_ | refine E_blockN ?_
      | refine E_blockR ?_ | refine E_blockX ?_ | refine E_blockO rfl ?_ | refine qs rfl rfl rfl rfl rfl rfl ?_
      | ((try refine qg rfl rfl rfl ?_); first | refine qv rfl (qp rfl) rfl rfl ?_ | refine qv rfl (qlen Und.eq rfl) rfl rfl ?_ | refine qv rfl (rr_lss rfl rfl (qT (by omega))) rfl rfl ?_ | refine qv rfl (rr_lss rfl rfl (qF (by omega))) rfl rfl ?_ | refine qv rfl (rr_add64 rfl rfl (by omega) (by omega) rfl) rfl rfl ?_ | refine qv rfl (rr_sub64 rfl rfl (by omega) (by omega) rfl) rfl rfl ?_ | refine qv rfl (rr_mul64 rfl rfl (by omega) (by omega) rfl) rfl rfl ?_ | refine qv rfl (rr_gtr rfl rfl (qT (by omega))) rfl rfl ?_ | refine qv rfl (rr_gtr rfl rfl (qF (by omega))) rfl rfl ?_))
    generalize hO : (fun i j => o (q, m) (a + i) (a + j)) = O
    refine T_loop (ι := Nat) (fun i => i ≤ d + 1) (fun i => [(0, .pointer (some ⟨gc, 0, none⟩)), (2, .int .i64 (a : Int)), (3, .int .i64 ((a + d : Nat) : Int)), (9, .slice (some ⟨g, 0, none⟩) (d + 1) (d + 1)), (11, .pointer (some ⟨g11, 0, none⟩)), (12, .slice (some ⟨g12, 0, none⟩) (d + 1) (d + 1)), (23, .slice (some ⟨b', off, none⟩) body.length cb), (24, .int .i64 body.length), (25, .int .i64 (k : Int)), (32, .slice (some ⟨g, 0, none⟩) (d + 1) (d + 1)), (33, .int .i64 ((d + 1 : Nat) : Int)), (34, .int .i64 (i : Int))])
      (fun i => [rowT g (d + 1) f, blkO g11 (symC (q, m)).toArray 58, rowT g12 (d + 1) (partF O f i)]) (fun i => d + 1 - i) 0 (Nat.zero_le _) (by repeat' (first | exact True.intro | refine And.intro rfl ?_)) (by rw [show partF O f 0 = fun _ => 0 from funext (partF_0 O f)]; rfl) ?_
    intro i j1
    by_cases c7 : i < d + 1
    · have hfi := i2 i
      repeat (first
        | refine qv rfl (qp rfl) rfl rfl ?_ | refine TL_nil ?_ | refine T_seq ?_ | refine T_region ?_ | refine qcT rfl ?_ | refine qcF rfl ?_ | refine T_skip ?_
        | refine T_exit ?_ | refine T_ret ?_ | refine T_block ?_ | refine E_then ?_ | refine E_thenX ?_ | refine E_thenR ?_ | refine E_blockN ?_
        | refine E_blockR ?_ | refine E_blockX ?_ | refine E_blockO rfl ?_ | refine qs rfl rfl rfl rfl rfl rfl ?_
        | ((try refine qg rfl rfl rfl ?_); first | refine qv rfl (qp rfl) rfl rfl ?_ | refine qv rfl (rr_idx1 Und.eq TyC.ty rfl rfl c7) rfl rfl ?_ | refine qv rfl (rr_load1 TyC.ty rfl (at_tab (i := 0) rfl c7)) rfl rfl ?_ | refine qv rfl (qlen Und.eq rfl) rfl rfl ?_ | refine qv rfl (rr_lss rfl rfl (qT (by omega))) rfl rfl ?_ | refine qv rfl (rr_lss rfl rfl (qF (by omega))) rfl rfl ?_ | refine qv rfl (rr_add64 rfl rfl (by omega) (by omega) rfl) rfl rfl ?_ | refine qv rfl (rr_sub64 rfl rfl (by omega) (by omega) rfl) rfl rfl ?_ | refine qv rfl (rr_mul64 rfl rfl (by omega) (by omega) rfl) rfl rfl ?_ | refine qv rfl (rr_gtr rfl rfl (qT (by omega))) rfl rfl ?_ | refine qv rfl (rr_gtr rfl rfl (qF (by omega))) rfl rfl ?_))
      refine T_loop (ι := Nat) (fun b => i ≤ b ∧ b ≤ d + 1) (fun b => [(0, .pointer (some ⟨gc, 0, none⟩)), (2, .int .i64 (a : Int)), (3, .int .i64 ((a + d : Nat) : Int)), (9, .slice (some ⟨g, 0, none⟩) (d + 1) (d + 1)), (11, .pointer (some ⟨g11, 0, none⟩)), (12, .slice (some ⟨g12, 0, none⟩) (d + 1) (d + 1)), (13, .int .i64 (i : Int)), (14, natV (f i)), (15, .int .i64 (b : Int)), (23, .slice (some ⟨b', off, none⟩) body.length cb), (24, .int .i64 body.length), (25, .int .i64 (k : Int)), (32, .slice (some ⟨g, 0, none⟩) (d + 1) (d + 1)), (33, .int .i64 ((d + 1 : Nat) : Int)), (34, .int .i64 (i : Int))])
        (fun b => [rowT g (d + 1) f, blkO g11 (symC (q, m)).toArray 58, rowT g12 (d + 1) (mixF O f i b)]) (fun b => d + 1 - b) i ⟨Nat.le_refl _, by omega⟩ (by repeat' (first | exact True.intro | refine And.intro rfl ?_)) (by rw [mixF_0]) ?_
      rintro b ⟨b1, b2⟩
      by_cases c8 : f i = 0
      · rw [mixF_none O f c8]
        rw [c8] at *
        by_cases c9 : b < d + 1
        · repeat (first
            | refine qv rfl (qp rfl) rfl rfl ?_ | refine TL_nil ?_ | refine T_seq ?_ | refine T_region ?_ | refine qcT rfl ?_ | refine qcF rfl ?_ | refine T_skip ?_
            | refine T_exit ?_ | refine T_ret ?_ | refine T_block ?_ | refine E_then ?_ | refine E_thenX ?_ | refine E_thenR ?_ | refine E_blockN ?_
            | refine E_blockR ?_ | refine E_blockX ?_ | refine E_blockO rfl ?_ | refine qs rfl rfl rfl rfl rfl rfl ?_
            | ((try refine qg rfl rfl rfl ?_); first | refine qv rfl (qp rfl) rfl rfl ?_ | refine qv rfl (qlen Und.eq rfl) rfl rfl ?_ | refine qv rfl (rr_lss rfl rfl (qT (by omega))) rfl rfl ?_ | refine qv rfl (rr_lss rfl rfl (qF (by omega))) rfl rfl ?_ | refine qv rfl (rr_add64 rfl rfl (by omega) (by omega) rfl) rfl rfl ?_ | refine qv rfl (rr_sub64 rfl rfl (by omega) (by omega) rfl) rfl rfl ?_ | refine qv rfl (rr_mul64 rfl rfl (by omega) (by omega) rfl) rfl rfl ?_ | refine qv rfl (rr_gtr rfl rfl (qT (by omega))) rfl rfl ?_ | refine qv rfl (rr_gtr rfl rfl (qF (by omega))) rfl rfl ?_))
          exact E_round (i + 1) (by omega) (by show d + 1 - (i + 1) < d + 1 - i; omega) (by repeat' (first | exact True.intro | refine And.intro rfl ?_)) rfl
        · repeat (first
            | refine qv rfl (qp rfl) rfl rfl ?_ | refine TL_nil ?_ | refine T_seq ?_ | refine T_region ?_ | refine qcT rfl ?_ | refine qcF rfl ?_ | refine T_skip ?_
            | refine T_exit ?_ | refine T_ret ?_ | refine T_block ?_ | refine E_then ?_ | refine E_thenX ?_ | refine E_thenR ?_ | refine E_blockN ?_
            | refine E_blockR ?_ | refine E_blockX ?_ | refine E_blockO rfl ?_ | refine qs rfl rfl rfl rfl rfl rfl ?_
            | ((try refine qg rfl rfl rfl ?_); first | refine qv rfl (qp rfl) rfl rfl ?_ | refine qv rfl (qlen Und.eq rfl) rfl rfl ?_ | refine qv rfl (rr_lss rfl rfl (qT (by omega))) rfl rfl ?_ | refine qv rfl (rr_lss rfl rfl (qF (by omega))) rfl rfl ?_ | refine qv rfl (rr_add64 rfl rfl (by omega) (by omega) rfl) rfl rfl ?_ | refine qv rfl (rr_sub64 rfl rfl (by omega) (by omega) rfl) rfl rfl ?_ | refine qv rfl (rr_mul64 rfl rfl (by omega) (by omega) rfl) rfl rfl ?_ | refine qv rfl (rr_gtr rfl rfl (qT (by omega))) rfl rfl ?_ | refine qv rfl (rr_gtr rfl rfl (qF (by omega))) rfl rfl ?_))
          exact E_round (i + 1) (by omega) (by show d + 1 - (i + 1) < d + 1 - i; omega) (by repeat' (first | exact True.intro | refine And.intro rfl ?_)) rfl
      by_cases c9 : b < d + 1
      · have hp := partF_le O f i b
        have hst := partF_step O f b1
        have hld : ∀ L : List Own, L[2]? = some (rowT g12 (d + 1) (mixF O f i b)) → At w L ⟨g12, 0 + b, none⟩ (natV (partF O f i b)) := fun L h => by rw [← mixF_at O f i b]; exact at_tab h c9
        have hsf := mixF_step O f i b
        have hone := fun w' hg => hone (a + i) (a + b) w' hg (by omega) (by omega) hw
        have hob := hox (a + i) (a + b)
        have he : o (q, m) (a + i) (a + b) = O i b := by rw [← hO]
        rw [he] at hone hob
        have hm : ((f i : Nat) : Int) * ((O i b : Nat) : Int) = ((f i * O i b : Nat) : Int) := by simp
        have hmb : f i * O i b ≤ 4 := Nat.mul_le_mul hfi hob
        have hc8 : 0 < f i := by omega
        generalize f i = fi at *
        generalize O i b = oo at *
        generalize fi * oo = pr at *
        rw [hst] at hsf
        clear hst
        generalize partF O f i b = p at *
        repeat (first
          | refine qv rfl (qp rfl) rfl rfl ?_ | refine TL_nil ?_ | refine T_seq ?_ | refine T_region ?_ | refine qcT rfl ?_ | refine qcF rfl ?_ | refine T_skip ?_
          | refine T_exit ?_ | refine T_ret ?_ | refine T_block ?_ | refine E_then ?_ | refine E_thenX ?_ | refine E_thenR ?_ | refine E_blockN ?_
          | refine E_blockR ?_ | refine E_blockX ?_ | refine E_blockO rfl ?_ | refine qs rfl rfl rfl rfl rfl rfl ?_
          | ((try refine qg rfl rfl rfl ?_); first | refine qv rfl (qp rfl) rfl rfl ?_ | refine qv rfl (qlen Und.eq rfl) rfl rfl ?_ | refine qv rfl (rr_lss rfl rfl (qT (by omega))) rfl rfl ?_ | refine qv rfl (rr_lss rfl rfl (qF (by omega))) rfl rfl ?_ | refine qv rfl (rr_add64 rfl rfl (by omega) (by omega) rfl) rfl rfl ?_ | refine qv rfl (rr_sub64 rfl rfl (by omega) (by omega) rfl) rfl rfl ?_ | refine qv rfl (rr_mul64 rfl rfl (by omega) (by omega) rfl) rfl rfl ?_ | refine qv rfl (rr_gtr rfl rfl (qT (by omega))) rfl rfl ?_ | refine qv rfl (rr_gtr rfl rfl (qF (by omega))) rfl rfl ?_))
        refine T_ord ([blkO g11 (symC (q, m)).toArray 58]) (.calm 0 (.calm 1 (.calm 2 (.calm 3 (.calm 4 (.calm 6 (.calm 7 (.calm 8 (.calm 9 (.calm 10 (.calm 11 (.calm 12 (.calm 13 (.calm 14 (.calm 15 (.calm 16 (.one 5 (.calm 17 (.calm 18 (.calm 19 (.one 20 (.done)))))))))))))))))))))) (sub_pick [1] (by decide) rfl) (by kernel_rfl) (by kernel_rfl) (by intro c a d v w h; cases d <;> exact h) ?_
        repeat (first
          | ((first | refine TW_plain rfl rfl ?_ | refine TW_gmet rfl rfl rfl rfl ?_); first | refine TN_val (qp rfl) rfl rfl ?_ | refine TN_val (rr_idx1 Und.eq TyC.ty rfl rfl c9) rfl rfl ?_ | refine TN_val (rr_loadB (i := 0) TyC.ty rfl rfl rfl) rfl rfl ?_ | refine TN_val (rr_add64 (r := ((a + i : Nat) : Int)) rfl rfl (by omega) (by omega) (by omega)) rfl rfl ?_ | refine TN_val (rr_add64 (r := ((a + b : Nat) : Int)) rfl rfl (by omega) (by omega) (by omega)) rfl rfl ?_ | refine TN_val (qlen Und.eq rfl) rfl rfl ?_ | refine TN_val (rr_lss rfl rfl (qT (by omega))) rfl rfl ?_ | refine TN_val (rr_lss rfl rfl (qF (by omega))) rfl rfl ?_ | refine TN_val (rr_add64 rfl rfl (by omega) (by omega) rfl) rfl rfl ?_ | refine TN_val (rr_sub64 rfl rfl (by omega) (by omega) rfl) rfl rfl ?_ | refine TN_val (rr_mul64 rfl rfl (by omega) (by omega) rfl) rfl rfl ?_ | refine TN_val (rr_gtr rfl rfl (qT (by omega))) rfl rfl ?_ | refine TN_val (rr_gtr rfl rfl (qF (by omega))) rfl rfl ?_)
          | refine TW_skip rfl rfl rfl rfl rfl rfl rfl ?_ | refine TW_done ?_)
        refine TW_call rfl (he4 EntersC.en rfl rfl rfl rfl rfl) (fun w hm => hone _ hm.below) rfl rfl rfl ?_
        repeat (first
          | ((first | refine TW_plain rfl rfl ?_ | refine TW_gmet rfl rfl rfl rfl ?_); first | refine TN_val (qp rfl) rfl rfl ?_ | refine TN_val (rr_mul64 (r := (pr : Int)) rfl rfl (by rw [hm]; omega) (by rw [hm]; omega) hm) rfl rfl ?_ | refine TN_val (qlen Und.eq rfl) rfl rfl ?_ | refine TN_val (rr_lss rfl rfl (qT (by omega))) rfl rfl ?_ | refine TN_val (rr_lss rfl rfl (qF (by omega))) rfl rfl ?_ | refine TN_val (rr_add64 rfl rfl (by omega) (by omega) rfl) rfl rfl ?_ | refine TN_val (rr_sub64 rfl rfl (by omega) (by omega) rfl) rfl rfl ?_ | refine TN_val (rr_mul64 rfl rfl (by omega) (by omega) rfl) rfl rfl ?_ | refine TN_val (rr_gtr rfl rfl (qT (by omega))) rfl rfl ?_ | refine TN_val (rr_gtr rfl rfl (qF (by omega))) rfl rfl ?_)
          | refine TW_skip rfl rfl rfl rfl rfl rfl rfl ?_ | refine TW_done ?_)
        refine TW_one rfl (TL_val (rr_load1 TyC.ty rfl (hld _ rfl)) rfl rfl rfl (TW_on (sub_pick [1] (by decide) rfl) ?_))
        repeat (first
          | ((first | refine TW_plain rfl rfl ?_ | refine TW_gmet rfl rfl rfl rfl ?_); first | refine TN_val (qp rfl) rfl rfl ?_ | refine TN_val (rr_add64 (r := ((p + pr : Nat) : Int)) rfl rfl (by omega) (by omega) (by omega)) rfl rfl ?_ | refine TN_val (qlen Und.eq rfl) rfl rfl ?_ | refine TN_val (rr_lss rfl rfl (qT (by omega))) rfl rfl ?_ | refine TN_val (rr_lss rfl rfl (qF (by omega))) rfl rfl ?_ | refine TN_val (rr_add64 rfl rfl (by omega) (by omega) rfl) rfl rfl ?_ | refine TN_val (rr_sub64 rfl rfl (by omega) (by omega) rfl) rfl rfl ?_ | refine TN_val (rr_mul64 rfl rfl (by omega) (by omega) rfl) rfl rfl ?_ | refine TN_val (rr_gtr rfl rfl (qT (by omega))) rfl rfl ?_ | refine TN_val (rr_gtr rfl rfl (qF (by omega))) rfl rfl ?_)
          | refine TW_skip rfl rfl rfl rfl rfl rfl rfl ?_ | refine TW_done ?_)
        refine TW_call rfl (he1 EntersC.en rfl rfl) (fun w hm => atMostN_calls (p + pr) w) rfl rfl rfl ?_
        repeat (first
          | ((first | refine TW_plain rfl rfl ?_ | refine TW_gmet rfl rfl rfl rfl ?_); first | refine TN_val (qp rfl) rfl rfl ?_ | refine TN_val (rr_idx1 Und.eq TyC.ty rfl rfl c9) rfl rfl ?_ | refine TN_val (qlen Und.eq rfl) rfl rfl ?_ | refine TN_val (rr_lss rfl rfl (qT (by omega))) rfl rfl ?_ | refine TN_val (rr_lss rfl rfl (qF (by omega))) rfl rfl ?_ | refine TN_val (rr_add64 rfl rfl (by omega) (by omega) rfl) rfl rfl ?_ | refine TN_val (rr_sub64 rfl rfl (by omega) (by omega) rfl) rfl rfl ?_ | refine TN_val (rr_mul64 rfl rfl (by omega) (by omega) rfl) rfl rfl ?_ | refine TN_val (rr_gtr rfl rfl (qT (by omega))) rfl rfl ?_ | refine TN_val (rr_gtr rfl rfl (qF (by omega))) rfl rfl ?_)
          | refine TW_skip rfl rfl rfl rfl rfl rfl rfl ?_ | refine TW_done ?_)
        refine TW_one rfl (TL_storeT (i := 2) (v := min (p + pr) 2) (mixF O f i (b + 1)) TyC.ty rfl rfl rfl c9 (fun j _ => hsf j) ?_)
        conv => arg 8; simp only [zA, zB, zC, zD, zE, zF, zG, zH, zI, rowS, ret, id_eq]
        refine TW_on (sub_pick [1] (by decide) rfl) ?_
        repeat (first
          | ((first | refine TW_plain rfl rfl ?_ | refine TW_gmet rfl rfl rfl rfl ?_); first | refine TN_val (qp rfl) rfl rfl ?_ | refine TN_val (qlen Und.eq rfl) rfl rfl ?_ | refine TN_val (rr_lss rfl rfl (qT (by omega))) rfl rfl ?_ | refine TN_val (rr_lss rfl rfl (qF (by omega))) rfl rfl ?_ | refine TN_val (rr_add64 rfl rfl (by omega) (by omega) rfl) rfl rfl ?_ | refine TN_val (rr_sub64 rfl rfl (by omega) (by omega) rfl) rfl rfl ?_ | refine TN_val (rr_mul64 rfl rfl (by omega) (by omega) rfl) rfl rfl ?_ | refine TN_val (rr_gtr rfl rfl (qT (by omega))) rfl rfl ?_ | refine TN_val (rr_gtr rfl rfl (qF (by omega))) rfl rfl ?_)
          | refine TW_skip rfl rfl rfl rfl rfl rfl rfl ?_ | refine TW_done ?_)
        repeat (first
          | refine qv rfl (qp rfl) rfl rfl ?_ | refine TL_nil ?_ | refine T_seq ?_ | refine T_region ?_ | refine qcT rfl ?_ | refine qcF rfl ?_ | refine T_skip ?_
          | refine T_exit ?_ | refine T_ret ?_ | refine T_block ?_ | refine E_then ?_ | refine E_thenX ?_ | refine E_thenR ?_ | refine E_blockN ?_
          | refine E_blockR ?_ | refine E_blockX ?_ | refine E_blockO rfl ?_ | refine qs rfl rfl rfl rfl rfl rfl ?_
          | ((try refine qg rfl rfl rfl ?_); first | refine qv rfl (qp rfl) rfl rfl ?_ | refine qv rfl (qlen Und.eq rfl) rfl rfl ?_ | refine qv rfl (rr_lss rfl rfl (qT (by omega))) rfl rfl ?_ | refine qv rfl (rr_lss rfl rfl (qF (by omega))) rfl rfl ?_ | refine qv rfl (rr_add64 rfl rfl (by omega) (by omega) rfl) rfl rfl ?_ | refine qv rfl (rr_sub64 rfl rfl (by omega) (by omega) rfl) rfl rfl ?_ | refine qv rfl (rr_mul64 rfl rfl (by omega) (by omega) rfl) rfl rfl ?_ | refine qv rfl (rr_gtr rfl rfl (qT (by omega))) rfl rfl ?_ | refine qv rfl (rr_gtr rfl rfl (qF (by omega))) rfl rfl ?_))
        exact E_round (b + 1) ⟨by omega, by omega⟩ (by show d + 1 - (b + 1) < d + 1 - b; omega) (by repeat' (first | exact True.intro | refine And.intro rfl ?_)) rfl
      · repeat (first
          | refine qv rfl (qp rfl) rfl rfl ?_ | refine TL_nil ?_ | refine T_seq ?_ | refine T_region ?_ | refine qcT rfl ?_ | refine qcF rfl ?_ | refine T_skip ?_
          | refine T_exit ?_ | refine T_ret ?_ | refine T_block ?_ | refine E_then ?_ | refine E_thenX ?_ | refine E_thenR ?_ | refine E_blockN ?_
          | refine E_blockR ?_ | refine E_blockX ?_ | refine E_blockO rfl ?_ | refine qs rfl rfl rfl rfl rfl rfl ?_
          | ((try refine qg rfl rfl rfl ?_); first | refine qv rfl (qp rfl) rfl rfl ?_ | refine qv rfl (qlen Und.eq rfl) rfl rfl ?_ | refine qv rfl (rr_lss rfl rfl (qT (by omega))) rfl rfl ?_ | refine qv rfl (rr_lss rfl rfl (qF (by omega))) rfl rfl ?_ | refine qv rfl (rr_add64 rfl rfl (by omega) (by omega) rfl) rfl rfl ?_ | refine qv rfl (rr_sub64 rfl rfl (by omega) (by omega) rfl) rfl rfl ?_ | refine qv rfl (rr_mul64 rfl rfl (by omega) (by omega) rfl) rfl rfl ?_ | refine qv rfl (rr_gtr rfl rfl (qT (by omega))) rfl rfl ?_ | refine qv rfl (rr_gtr rfl rfl (qF (by omega))) rfl rfl ?_))
        exact E_round (i + 1) (by omega) (by show d + 1 - (i + 1) < d + 1 - i; omega) (by repeat' (first | exact True.intro | refine And.intro rfl ?_)) (by unfold rowT; rw [mixF_end O f (show d + 1 ≤ b by omega)])
    · repeat (first
        | refine qv rfl (qp rfl) rfl rfl ?_ | refine TL_nil ?_ | refine T_seq ?_ | refine T_region ?_ | refine qcT rfl ?_ | refine qcF rfl ?_ | refine T_skip ?_
        | refine T_exit ?_ | refine T_ret ?_ | refine T_block ?_ | refine E_then ?_ | refine E_thenX ?_ | refine E_thenR ?_ | refine E_blockN ?_
        | refine E_blockR ?_ | refine E_blockX ?_ | refine E_blockO rfl ?_ | refine qs rfl rfl rfl rfl rfl rfl ?_
        | ((try refine qg rfl rfl rfl ?_); first | refine qv rfl (qp rfl) rfl rfl ?_ | refine qv rfl (qlen Und.eq rfl) rfl rfl ?_ | refine qv rfl (rr_lss rfl rfl (qT (by omega))) rfl rfl ?_ | refine qv rfl (rr_lss rfl rfl (qF (by omega))) rfl rfl ?_ | refine qv rfl (rr_add64 rfl rfl (by omega) (by omega) rfl) rfl rfl ?_ | refine qv rfl (rr_sub64 rfl rfl (by omega) (by omega) rfl) rfl rfl ?_ | refine qv rfl (rr_mul64 rfl rfl (by omega) (by omega) rfl) rfl rfl ?_ | refine qv rfl (rr_gtr rfl rfl (qT (by omega))) rfl rfl ?_ | refine qv rfl (rr_gtr rfl rfl (qF (by omega))) rfl rfl ?_))
      refine E_pick [2] (by decide) rfl ?_
      have e1 : tab (d + 1) (partF O f i) = tab (d + 1) (nextF O f) := tab_congr fun j hj => partF_end O f (by omega)
      exact E_round (k + 1, g12, nextF O f) ⟨by omega, nextF_le O f, rfl⟩ (by show body.length - (k + 1) < body.length - k; omega) (by repeat' (first | exact True.intro | refine And.intro rfl ?_)) (by unfold rowT; rw [e1]; rfl)
  · rw [List.drop_of_length_le (by omega), waysF]
    repeat (first
      | refine qv rfl (qp rfl) rfl rfl ?_ | refine TL_nil ?_ | refine T_seq ?_ | refine T_region ?_ | refine qcT rfl ?_ | refine qcF rfl ?_ | refine T_skip ?_
      | refine T_exit ?_ | refine T_ret ?_ | refine T_block ?_ | refine E_then ?_ | refine E_thenX ?_ | refine E_thenR ?_ | refine E_blockN ?_
      | refine E_blockR ?_ | refine E_blockX ?_ | refine E_blockO rfl ?_ | refine qs rfl rfl rfl rfl rfl rfl ?_
      | ((try refine qg rfl rfl rfl ?_); first | refine qv rfl (qp rfl) rfl rfl ?_ | refine qv rfl (rr_sub64 (r := (d : Int)) rfl rfl (by omega) (by omega) (by omega)) rfl rfl ?_ | refine qv rfl (rr_idx1 Und.eq TyC.ty rfl rfl (show d < d + 1 by omega)) rfl rfl ?_ | refine qv rfl (rr_load1 TyC.ty rfl (at_tab (i := 0) rfl (show d < d + 1 by omega))) rfl rfl ?_ | refine qv rfl (qlen Und.eq rfl) rfl rfl ?_ | refine qv rfl (rr_lss rfl rfl (qT (by omega))) rfl rfl ?_ | refine qv rfl (rr_lss rfl rfl (qF (by omega))) rfl rfl ?_ | refine qv rfl (rr_add64 rfl rfl (by omega) (by omega) rfl) rfl rfl ?_ | refine qv rfl (rr_sub64 rfl rfl (by omega) (by omega) rfl) rfl rfl ?_ | refine qv rfl (rr_mul64 rfl rfl (by omega) (by omega) rfl) rfl rfl ?_ | refine qv rfl (rr_gtr rfl rfl (qT (by omega))) rfl rfl ?_ | refine qv rfl (rr_gtr rfl rfl (qF (by omega))) rfl rfl ?_))
    exact E_ret1 rfl rfl fun w hm => hm.ret
end Go.Proofs.Ytnicebdkejkieaa.eng
