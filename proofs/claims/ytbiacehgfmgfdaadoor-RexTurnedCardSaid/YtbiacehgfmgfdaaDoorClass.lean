/- What class.Range, Join, Meet, Not compute. -/
import Derived.Test.YtbiacehgfmgfdaaDoorMgA
import Derived.Test.YtbiacehgfmgfdaaDoorClassL
namespace Go.Proofs.YtbiacehgfmgfdaaDoor
open Go.RowKit kit mix classL
attribute [local go_sem] and64 or64 xor64 not64
theorem cls_cells {w : World} {g : Nat} {x : C4} (h : Wr w g 0 (clsL x)) : w.cell? ⟨g, 0, none⟩ = some (v64 x.a) ∧ w.cell? ⟨g, 1, none⟩ = some (v64 x.b) ∧ w.cell? ⟨g, 2, none⟩ = some (v64 x.c) ∧ w.cell? ⟨g, 3, none⟩ = some (v64 x.d) :=
  ⟨(h 0 _ rfl).1, (h 1 _ rfl).1, (h 2 _ rfl).1, (h 3 _ rfl).1⟩
theorem cls_block {w : World} {g : Nat} {x : C4} {T : TypeId} (h : w.heap[g]? = some (.cells #[.int .u64 (n64 x.a), .int .u64 (n64 x.b), .int .u64 (n64 x.c), .int .u64 (n64 x.d)] T (0, 0))) : Wr w g 0 (clsL x) := fun j u hj => by
  rw [Nat.zero_add, cell_of_row w g j _ T (0, 0) h]
  exact ⟨by simpa [clsL] using hj, frozen_of_row w g j _ T h⟩
/-- three classes laid one behind the other -/
theorem box_cls {w : World} {B : Nat} (hB : w.heap.size = B) (x : C4) (T : TypeId) : Wr (w.alloc (.cells #[.int .u64 (n64 x.a), .int .u64 (n64 x.b), .int .u64 (n64 x.c), .int .u64 (n64 x.d)] T)) B 0 (clsL x) :=
  cls_block (blk_new w _ B hB)
theorem gr_alloc (w : World) (o : Obj) : Below w.heap.size w (w.alloc o) := (Below.refl _ _).alloc (Nat.le_refl _) _
theorem cls_at {w : World} {g : Nat} {x : C4} (h : Wr w g 0 (clsL x)) (i : Nat) (hi : i < 4) : w.cell? ⟨g, i, none⟩ = some (.int .u64 (n64 (x.get i))) ∧ w.frozen? ⟨g, i, none⟩ = false := by
  have := h i _ (clsL_get x i hi)
  rw [Nat.zero_add] at this
  exact this
theorem cls_store {w : World} {g : Nat} {x : C4} (h : Wr w g 0 (clsL x)) (i : Nat) (hi : i < 4) (v : BitVec 64) : Wr (w.setCell ⟨g, i, none⟩ (.int .u64 (n64 v))) g 0 (clsL (x.set i v)) := by
  have := h.set i (by simp [clsL]; omega) (v64 v)
  rw [Nat.zero_add, clsL_set x i hi v] at this
  exact this
set_option maxHeartbeats 2000000 in
theorem join_calls (x y : C4) (w : World) :
    Calls Tryd.prog 17 #[clsV x, clsV y] w fun e w' => e = .returned (clsV (x.join y)) ∧ Below w.heap.size w w' := by
  unfold clsV
  go_enter Tryd.func17, Tryd.ntmps17
  go_wp2_with fail
  obtain ⟨B, hB⟩ : ∃ B, B = w.heap.size := ⟨_, rfl⟩
  have hstart : ∀ (C : C4), Below B w (((w.alloc (.cells #[.int .u64 (n64 x.a), .int .u64 (n64 x.b), .int .u64 (n64 x.c), .int .u64 (n64 x.d)] 27)).alloc (.cells #[.int .u64 (n64 y.a), .int .u64 (n64 y.b), .int .u64 (n64 y.c), .int .u64 (n64 y.d)] 27)).alloc (.cells #[.int .u64 (n64 C.a), .int .u64 (n64 C.b), .int .u64 (n64 C.c), .int .u64 (n64 C.d)] 27)) ∧
      Wr (((w.alloc (.cells #[.int .u64 (n64 x.a), .int .u64 (n64 x.b), .int .u64 (n64 x.c), .int .u64 (n64 x.d)] 27)).alloc (.cells #[.int .u64 (n64 y.a), .int .u64 (n64 y.b), .int .u64 (n64 y.c), .int .u64 (n64 y.d)] 27)).alloc (.cells #[.int .u64 (n64 C.a), .int .u64 (n64 C.b), .int .u64 (n64 C.c), .int .u64 (n64 C.d)] 27)) B 0 (clsL x) ∧
      Wr (((w.alloc (.cells #[.int .u64 (n64 x.a), .int .u64 (n64 x.b), .int .u64 (n64 x.c), .int .u64 (n64 x.d)] 27)).alloc (.cells #[.int .u64 (n64 y.a), .int .u64 (n64 y.b), .int .u64 (n64 y.c), .int .u64 (n64 y.d)] 27)).alloc (.cells #[.int .u64 (n64 C.a), .int .u64 (n64 C.b), .int .u64 (n64 C.c), .int .u64 (n64 C.d)] 27)) (B + 1) 0 (clsL y) ∧
      Wr (((w.alloc (.cells #[.int .u64 (n64 x.a), .int .u64 (n64 x.b), .int .u64 (n64 x.c), .int .u64 (n64 x.d)] 27)).alloc (.cells #[.int .u64 (n64 y.a), .int .u64 (n64 y.b), .int .u64 (n64 y.c), .int .u64 (n64 y.d)] 27)).alloc (.cells #[.int .u64 (n64 C.a), .int .u64 (n64 C.b), .int .u64 (n64 C.c), .int .u64 (n64 C.d)] 27)) (B + 1 + 1) 0 (clsL C) := fun C => by
    subst hB
    exact ⟨((((Below.refl _ _).alloc (Nat.le_refl _) _).alloc (by simp) _).alloc (by simp; omega) _), ((box_cls rfl x _).gr (gr_alloc _ _)).gr (gr_alloc _ _), (box_cls (by simp) y _).gr (gr_alloc _ _), box_cls (by simp) C _⟩
  rw [← hB]
  have hBle : w.heap.size ≤ B := by omega
  have hBge : B ≤ w.heap.size := by omega
  clear hB
  go_loopg [6] 4 (fun g c wr => ∃ i : Nat, i + g = 4 ∧ c = .int .i64 i ∧ Below B w wr ∧ Wr wr B 0 (clsL (x.upto (x.join y) i)) ∧ Wr wr (B + 1) 0 (clsL y) ∧ Wr wr (B + 1 + 1) 0 (clsL C4.zero))
  case atStart => exact ⟨0, by omega, rfl, hstart C4.zero⟩
  case round =>
    obtain ⟨i, hi, rfl, hb, hx, hy, hr⟩ := hrel
    clear hstart
    by_cases h4 : i < 4
    · have cx : ∀ w', Up wr.drew w' → w'.cell? ⟨B, i, none⟩ = some (.int .u64 (n64 (x.get i))) := fun w' hw => by
        have := (cls_at ((hx.gr (Gr.drew _)).gr hw) i h4).1; rwa [upto_get _ _ _ h4] at this
      have cy : ∀ w', Up wr.drew w' → w'.cell? ⟨B + 1, i, none⟩ = some (.int .u64 (n64 (y.get i))) := fun w' hw => (cls_at ((hy.gr (Gr.drew _)).gr hw) i h4).1
      go_wp2_with fail
      refine mix 8 (List.replicate 8 true) rfl (by kernel_rfl) (by kernel_rfl) (by intro c a d v w h; cases d <;> exact h) (Up wr.drew) (closed_up _) (Gr.refl _) ?_
      simp only [List.take_succ_cons, List.take_zero, List.drop_succ_cons, List.drop_zero, List.replicate]
      repeat (first
        | (refine wpM_val (by rfl) (fun w hSw => by go_simp; (try (simp only [↓IntWalk.iteOmega]; try go_simp)); (try go_bits); first | done | with_reducible rfl) ?_; simp only [Act.put, List.setIfInBounds_toArray, List.set_cons_zero, List.set_cons_succ])
        | (refine wpM_skip (by rfl) ?_; simp only [Act.put, List.setIfInBounds_toArray, List.set_cons_zero, List.set_cons_succ]))
      refine wpM_end fun w5 hw5 => ?_
      have hx5 := (hx.gr (Gr.drew _)).gr hw5
      have hy5 := (hy.gr (Gr.drew _)).gr hw5
      have hr5 := (hr.gr (Gr.drew _)).gr hw5
      have hb5 : Below B w w5 := below_gr hb.drew (by have := hb.size; simp; omega) hw5
      obtain ⟨c1, c2⟩ := cls_at hx5 i h4
      have hs := cls_store hx5 i h4 (x.get i ||| y.get i)
      have hf1 := hy5.far (a := ⟨B, i, none⟩) (by simp) (.int .u64 (n64 (x.get i ||| y.get i)))
      have hf2 := hr5.far (a := ⟨B, i, none⟩) (by simp; omega) (.int .u64 (n64 (x.get i ||| y.get i)))
      have hbs := hb5.setCell (p := ⟨B, i, none⟩) (by simp) (.int .u64 (n64 (x.get i ||| y.get i)))
      rw [← join_get, upto_set _ _ _ h4, join_get] at hs
      have HS := Lib.hid (And.intro hs (And.intro hf1 (And.intro hf2 hbs)))
      clear hs hf1 hf2 hbs hx5 hy5 hr5 hb5 cx cy hx hy hr hb hw5
      go_wp2_with fail
      go_roundg (gk - 1)
      case measure => omega
      case rel => exact ⟨i + 1, by omega, by go_num, HS.out.2.2.2, HS.out.1, HS.out.2.1, HS.out.2.2.1⟩
    · obtain rfl : i = 4 := by omega
      rw [upto_all] at hx
      obtain ⟨c0, c1, c2, c3⟩ := cls_cells hx
      obtain ⟨⟨r0, f0⟩, ⟨r1, f1⟩, ⟨r2, f2⟩, ⟨r3, f3⟩⟩ : _ ∧ _ ∧ _ ∧ _ := ⟨cls_at hr 0 (by decide), cls_at hr 1 (by decide), cls_at hr 2 (by decide), cls_at hr 3 (by decide)⟩
      go_wp2_with fail
      refine bodyPost_ret (v := .agg #[.int .u64 (n64 (x.join y).a), .int .u64 (n64 (x.join y).b), .int .u64 (n64 (x.join y).c), .int .u64 (n64 (x.join y).d)]) (by simp [results, Tryd.results17, go_sem, r0, r1, r2, r3]) rfl ⟨rfl, ?_⟩
      exact ((((hb.setCell (by simp; omega) _).setCell (by simp; omega) _).setCell (by simp; omega) _).setCell (by simp; omega) _).mono hBle
set_option maxHeartbeats 2000000 in
theorem meet_calls (x y : C4) (w : World) :
    Calls Tryd.prog 18 #[clsV x, clsV y] w fun e w' => e = .returned (clsV (x.meet y)) ∧ Below w.heap.size w w' := by
  unfold clsV
  go_enter Tryd.func18, Tryd.ntmps18
  go_wp2_with fail
  obtain ⟨B, hB⟩ : ∃ B, B = w.heap.size := ⟨_, rfl⟩
  have hstart : ∀ (C : C4), Below B w (((w.alloc (.cells #[.int .u64 (n64 x.a), .int .u64 (n64 x.b), .int .u64 (n64 x.c), .int .u64 (n64 x.d)] 27)).alloc (.cells #[.int .u64 (n64 y.a), .int .u64 (n64 y.b), .int .u64 (n64 y.c), .int .u64 (n64 y.d)] 27)).alloc (.cells #[.int .u64 (n64 C.a), .int .u64 (n64 C.b), .int .u64 (n64 C.c), .int .u64 (n64 C.d)] 27)) ∧
      Wr (((w.alloc (.cells #[.int .u64 (n64 x.a), .int .u64 (n64 x.b), .int .u64 (n64 x.c), .int .u64 (n64 x.d)] 27)).alloc (.cells #[.int .u64 (n64 y.a), .int .u64 (n64 y.b), .int .u64 (n64 y.c), .int .u64 (n64 y.d)] 27)).alloc (.cells #[.int .u64 (n64 C.a), .int .u64 (n64 C.b), .int .u64 (n64 C.c), .int .u64 (n64 C.d)] 27)) B 0 (clsL x) ∧
      Wr (((w.alloc (.cells #[.int .u64 (n64 x.a), .int .u64 (n64 x.b), .int .u64 (n64 x.c), .int .u64 (n64 x.d)] 27)).alloc (.cells #[.int .u64 (n64 y.a), .int .u64 (n64 y.b), .int .u64 (n64 y.c), .int .u64 (n64 y.d)] 27)).alloc (.cells #[.int .u64 (n64 C.a), .int .u64 (n64 C.b), .int .u64 (n64 C.c), .int .u64 (n64 C.d)] 27)) (B + 1) 0 (clsL y) ∧
      Wr (((w.alloc (.cells #[.int .u64 (n64 x.a), .int .u64 (n64 x.b), .int .u64 (n64 x.c), .int .u64 (n64 x.d)] 27)).alloc (.cells #[.int .u64 (n64 y.a), .int .u64 (n64 y.b), .int .u64 (n64 y.c), .int .u64 (n64 y.d)] 27)).alloc (.cells #[.int .u64 (n64 C.a), .int .u64 (n64 C.b), .int .u64 (n64 C.c), .int .u64 (n64 C.d)] 27)) (B + 1 + 1) 0 (clsL C) := fun C => by
    subst hB
    exact ⟨((((Below.refl _ _).alloc (Nat.le_refl _) _).alloc (by simp) _).alloc (by simp; omega) _), ((box_cls rfl x _).gr (gr_alloc _ _)).gr (gr_alloc _ _), (box_cls (by simp) y _).gr (gr_alloc _ _), box_cls (by simp) C _⟩
  rw [← hB]
  have hBle : w.heap.size ≤ B := by omega
  have hBge : B ≤ w.heap.size := by omega
  clear hB
  go_loopg [6] 4 (fun g c wr => ∃ i : Nat, i + g = 4 ∧ c = .int .i64 i ∧ Below B w wr ∧ Wr wr B 0 (clsL (x.upto (x.meet y) i)) ∧ Wr wr (B + 1) 0 (clsL y) ∧ Wr wr (B + 1 + 1) 0 (clsL C4.zero))
  case atStart => exact ⟨0, by omega, rfl, hstart C4.zero⟩
  case round =>
    obtain ⟨i, hi, rfl, hb, hx, hy, hr⟩ := hrel
    clear hstart
    by_cases h4 : i < 4
    · have cx : ∀ w', Up wr.drew w' → w'.cell? ⟨B, i, none⟩ = some (.int .u64 (n64 (x.get i))) := fun w' hw => by
        have := (cls_at ((hx.gr (Gr.drew _)).gr hw) i h4).1; rwa [upto_get _ _ _ h4] at this
      have cy : ∀ w', Up wr.drew w' → w'.cell? ⟨B + 1, i, none⟩ = some (.int .u64 (n64 (y.get i))) := fun w' hw => (cls_at ((hy.gr (Gr.drew _)).gr hw) i h4).1
      go_wp2_with fail
      refine mix 8 (List.replicate 8 true) rfl (by kernel_rfl) (by kernel_rfl) (by intro c a d v w h; cases d <;> exact h) (Up wr.drew) (closed_up _) (Gr.refl _) ?_
      simp only [List.take_succ_cons, List.take_zero, List.drop_succ_cons, List.drop_zero, List.replicate]
      repeat (first
        | (refine wpM_val (by rfl) (fun w hSw => by go_simp; (try (simp only [↓IntWalk.iteOmega]; try go_simp)); (try go_bits); first | done | with_reducible rfl) ?_; simp only [Act.put, List.setIfInBounds_toArray, List.set_cons_zero, List.set_cons_succ])
        | (refine wpM_skip (by rfl) ?_; simp only [Act.put, List.setIfInBounds_toArray, List.set_cons_zero, List.set_cons_succ]))
      refine wpM_end fun w5 hw5 => ?_
      have hx5 := (hx.gr (Gr.drew _)).gr hw5
      have hy5 := (hy.gr (Gr.drew _)).gr hw5
      have hr5 := (hr.gr (Gr.drew _)).gr hw5
      have hb5 : Below B w w5 := below_gr hb.drew (by have := hb.size; simp; omega) hw5
      obtain ⟨c1, c2⟩ := cls_at hx5 i h4
      have hs := cls_store hx5 i h4 (x.get i &&& y.get i)
      have hf1 := hy5.far (a := ⟨B, i, none⟩) (by simp) (.int .u64 (n64 (x.get i &&& y.get i)))
      have hf2 := hr5.far (a := ⟨B, i, none⟩) (by simp; omega) (.int .u64 (n64 (x.get i &&& y.get i)))
      have hbs := hb5.setCell (p := ⟨B, i, none⟩) (by simp) (.int .u64 (n64 (x.get i &&& y.get i)))
      rw [← meet_get, upto_set _ _ _ h4, meet_get] at hs
      have HS := Lib.hid (And.intro hs (And.intro hf1 (And.intro hf2 hbs)))
      clear hs hf1 hf2 hbs hx5 hy5 hr5 hb5 cx cy hx hy hr hb hw5
      go_wp2_with fail
      go_roundg (gk - 1)
      case measure => omega
      case rel => exact ⟨i + 1, by omega, by go_num, HS.out.2.2.2, HS.out.1, HS.out.2.1, HS.out.2.2.1⟩
    · obtain rfl : i = 4 := by omega
      rw [upto_all] at hx
      obtain ⟨c0, c1, c2, c3⟩ := cls_cells hx
      obtain ⟨⟨r0, f0⟩, ⟨r1, f1⟩, ⟨r2, f2⟩, ⟨r3, f3⟩⟩ : _ ∧ _ ∧ _ ∧ _ := ⟨cls_at hr 0 (by decide), cls_at hr 1 (by decide), cls_at hr 2 (by decide), cls_at hr 3 (by decide)⟩
      go_wp2_with fail
      refine bodyPost_ret (v := .agg #[.int .u64 (n64 (x.meet y).a), .int .u64 (n64 (x.meet y).b), .int .u64 (n64 (x.meet y).c), .int .u64 (n64 (x.meet y).d)]) (by simp [results, Tryd.results18, go_sem, r0, r1, r2, r3]) rfl ⟨rfl, ?_⟩
      exact ((((hb.setCell (by simp; omega) _).setCell (by simp; omega) _).setCell (by simp; omega) _).setCell (by simp; omega) _).mono hBle
set_option maxHeartbeats 2000000 in
theorem not_calls (x : C4) (w : World) :
    Calls Tryd.prog 19 #[clsV x] w fun e w' => e = .returned (clsV x.not) ∧ Below w.heap.size w w' := by
  unfold clsV
  go_enter Tryd.func19, Tryd.ntmps19
  go_wp2_with fail
  obtain ⟨B, hB⟩ : ∃ B, B = w.heap.size := ⟨_, rfl⟩
  have hstart : ∀ (C : C4), Below B w ((w.alloc (.cells #[.int .u64 (n64 x.a), .int .u64 (n64 x.b), .int .u64 (n64 x.c), .int .u64 (n64 x.d)] 27)).alloc (.cells #[.int .u64 (n64 C.a), .int .u64 (n64 C.b), .int .u64 (n64 C.c), .int .u64 (n64 C.d)] 27)) ∧ Wr ((w.alloc (.cells #[.int .u64 (n64 x.a), .int .u64 (n64 x.b), .int .u64 (n64 x.c), .int .u64 (n64 x.d)] 27)).alloc (.cells #[.int .u64 (n64 C.a), .int .u64 (n64 C.b), .int .u64 (n64 C.c), .int .u64 (n64 C.d)] 27)) B 0 (clsL x) ∧ Wr ((w.alloc (.cells #[.int .u64 (n64 x.a), .int .u64 (n64 x.b), .int .u64 (n64 x.c), .int .u64 (n64 x.d)] 27)).alloc (.cells #[.int .u64 (n64 C.a), .int .u64 (n64 C.b), .int .u64 (n64 C.c), .int .u64 (n64 C.d)] 27)) (B + 1) 0 (clsL C) := fun C => by
    subst hB
    exact ⟨(((Below.refl _ _).alloc (Nat.le_refl _) _).alloc (by simp) _), ((box_cls rfl x _).gr (gr_alloc _ _)), (box_cls (by simp) C _)⟩
  rw [← hB]
  have hBle : w.heap.size ≤ B := by omega
  have hBge : B ≤ w.heap.size := by omega
  clear hB
  go_loopg [4] 4 (fun g c wr => ∃ i : Nat, i + g = 4 ∧ c = .int .i64 i ∧ Below B w wr ∧ Wr wr B 0 (clsL (x.upto x.not i)) ∧ Wr wr (B + 1) 0 (clsL C4.zero))
  case atStart => exact ⟨0, by omega, rfl, hstart C4.zero⟩
  case round =>
    obtain ⟨i, hi, rfl, hb, hx, hr⟩ := hrel
    clear hstart
    by_cases h4 : i < 4
    · obtain ⟨c1, c2⟩ := cls_at hx i h4
      rw [upto_get _ _ _ h4] at c1
      have hs := cls_store hx i h4 (~~~ x.get i)
      have hf2 := hr.far (a := ⟨B, i, none⟩) (by simp) (.int .u64 (n64 (~~~ x.get i)))
      have hbs := hb.setCell (p := ⟨B, i, none⟩) (by simp) (.int .u64 (n64 (~~~ x.get i)))
      rw [← not_get, upto_set _ _ _ h4, not_get] at hs
      have HS := Lib.hid (And.intro hs (And.intro hf2 hbs))
      clear hs hf2 hbs hx hr hb
      go_wp2_with fail
      go_roundg (gk - 1)
      case measure => omega
      case rel => exact ⟨i + 1, by omega, by go_num, HS.out.2.2, HS.out.1, HS.out.2.1⟩
    · obtain rfl : i = 4 := by omega
      rw [upto_all] at hx
      obtain ⟨c0, c1, c2, c3⟩ := cls_cells hx
      obtain ⟨⟨r0, f0⟩, ⟨r1, f1⟩, ⟨r2, f2⟩, ⟨r3, f3⟩⟩ : _ ∧ _ ∧ _ ∧ _ := ⟨cls_at hr 0 (by decide), cls_at hr 1 (by decide), cls_at hr 2 (by decide), cls_at hr 3 (by decide)⟩
      go_wp2_with fail
      refine bodyPost_ret (v := .agg #[.int .u64 (n64 x.not.a), .int .u64 (n64 x.not.b), .int .u64 (n64 x.not.c), .int .u64 (n64 x.not.d)]) (by simp [results, Tryd.results19, go_sem, r0, r1, r2, r3]) rfl ⟨rfl, ?_⟩
      exact ((((hb.setCell (by simp) _).setCell (by simp) _).setCell (by simp) _).setCell (by simp) _).mono hBle
set_option maxHeartbeats 2000000 in
theorem range_calls (lo hi : Int) (w : World) (h1 : okI64 lo) (h2 : okI64 hi) :
    Calls Tryd.prog 22 #[.int .i64 lo, .int .i64 hi] w fun e w' => e = .returned (clsV (rangeF lo hi)) ∧ Below w.heap.size w w' := by
  obtain ⟨l1, l2⟩ := h1
  obtain ⟨m1, m2⟩ := h2
  unfold clsV
  have hstart : Below w.heap.size w ((w.alloc (.cells #[.int .u64 0, .int .u64 0, .int .u64 0, .int .u64 0] 27)).alloc (.cells #[.int .u64 0, .int .u64 0, .int .u64 0, .int .u64 0] 27)) ∧ Wr ((w.alloc (.cells #[.int .u64 0, .int .u64 0, .int .u64 0, .int .u64 0] 27)).alloc (.cells #[.int .u64 0, .int .u64 0, .int .u64 0, .int .u64 0] 27)) w.heap.size 0 (clsL C4.zero) ∧ Wr ((w.alloc (.cells #[.int .u64 0, .int .u64 0, .int .u64 0, .int .u64 0] 27)).alloc (.cells #[.int .u64 0, .int .u64 0, .int .u64 0, .int .u64 0] 27)) (w.heap.size + 1) 0 (clsL C4.zero) :=
    ⟨(((Below.refl _ _).alloc (Nat.le_refl _) _).alloc (by simp) _), ((box_cls rfl C4.zero _).gr (gr_alloc _ _)), (box_cls (by simp) C4.zero _)⟩
  obtain ⟨B, hB⟩ : ∃ B, B = w.heap.size := ⟨_, rfl⟩
  rw [← hB] at hstart
  go_enter Tryd.func22, Tryd.ntmps22
  go_upto_region 2 with (fail)
  rw [← hB]
  have hBle : w.heap.size ≤ B := by omega
  have hBge : B ≤ w.heap.size := by omega
  clear hB
  go_cut [6] (fun s6 w' => w' = ((w.alloc (.cells #[.int .u64 0, .int .u64 0, .int .u64 0, .int .u64 0] 27)).alloc (.cells #[.int .u64 0, .int .u64 0, .int .u64 0, .int .u64 0] 27)) ∧ s6 = .int .i64 (max lo 0))
  case first =>
    go_wp2
    all_goals
      go_meet
      case rel => exact ⟨rfl, by congr 1; omega⟩
  case rest =>
    obtain ⟨rfl, rfl⟩ := hcut
    obtain ⟨b0, hb0⟩ : ∃ b0 : Nat, (b0 : Int) = max lo 0 := ⟨(max lo 0).toNat, by omega⟩
    have hF : rangeF lo hi = C4.bitsFrom C4.zero b0 (min hi 255 + 1 - b0).toNat := by unfold rangeF; rw [← hb0]; rfl
    have HF := Lib.hid hF
    rw [← hb0]
    clear hF hb0
    obtain ⟨hs1, hs2, hs3⟩ := hstart
    obtain ⟨N, hN⟩ : ∃ N, N = (min hi 255 + 1 - b0).toNat := ⟨_, rfl⟩
    have HN := Lib.hid hN
    have hN1 : 0 < N → (b0 : Int) + N = min hi 255 + 1 := fun h => by omega
    have hN0 : N = 0 → min hi 255 < (b0 : Int) := fun h => by omega
    have hN2 : N = 0 ∨ b0 + N ≤ 256 := by omega
    clear hN
    rcases (show 255 < hi ∨ hi ≤ 255 by omega) with hh | hh
    all_goals
      go_wp2_with fail
      go_loopg [6] N (fun g c wr => ∃ i : Nat, i + g = N ∧ c = .int .i64 ((b0 + i : Nat) : Int) ∧ Below B w wr ∧ Wr wr B 0 (clsL C4.zero) ∧ Wr wr (B + 1) 0 (clsL (C4.bitsFrom C4.zero b0 i)))
      case atStart => exact ⟨0, by omega, rfl, hs1, hs2, hs3⟩
      case round =>
        obtain ⟨i, hi', rfl, hb, hr, hx⟩ := hrel
        clear hs1 hs2 hs3
        by_cases hlt : i < N
        · have hbb : ((b0 + i : Nat) : Int) ≤ hi := by have := hN1 (by omega); omega
          have hb255 : b0 + i ≤ 255 := by omega
          have hstep := bit_step C4.zero b0 i
          generalize hbn : b0 + i = b at hbb hb255 hstep ⊢
          have h4 : b / 64 < 4 := by omega
          have cx : ∀ w', Up wr.drew w' → w'.cell? ⟨B + 1, b / 64, none⟩ = some (.int .u64 (n64 ((C4.bitsFrom C4.zero b0 i).get (b / 64)))) := fun w' hw => (cls_at ((hx.gr (Gr.drew _)).gr hw) (b / 64) h4).1
          have hand := i64_and63 b (by omega)
          have hsh := one_shl (b % 64) (Nat.mod_lt _ (by decide))
          have HS0 := Lib.hid hstep
          have HI := Lib.hid hi'
          clear hN1 hN0 hN2 hstep hi'
          go_wp2_with fail
          refine mix 9 (List.replicate 9 true) rfl (by kernel_rfl) (by kernel_rfl) (by intro c a d v w h; cases d <;> exact h) (Up wr.drew) (closed_up _) (Gr.refl _) ?_
          simp only [List.take_succ_cons, List.take_zero, List.drop_succ_cons, List.drop_zero, List.replicate]
          repeat (first
            | (refine wpM_val (by rfl) (fun w hSw => by go_simp; (try (simp only [↓IntWalk.iteOmega]; try go_simp)); (try go_bits); first | done | with_reducible rfl) ?_; simp only [Act.put, List.setIfInBounds_toArray, List.set_cons_zero, List.set_cons_succ])
            | (refine wpM_skip (by rfl) ?_; simp only [Act.put, List.setIfInBounds_toArray, List.set_cons_zero, List.set_cons_succ]))
          refine wpM_end fun w5 hw5 => ?_
          have hx5 := (hx.gr (Gr.drew _)).gr hw5
          have hr5 := (hr.gr (Gr.drew _)).gr hw5
          have hb5 : Below B w w5 := below_gr hb.drew (by have := hb.size; simp; omega) hw5
          obtain ⟨c1, c2⟩ := cls_at hx5 (b / 64) h4
          have hs := cls_store hx5 (b / 64) h4 ((C4.bitsFrom C4.zero b0 i).get (b / 64) ||| BitVec.ofNat 64 (2 ^ (b % 64)))
          have hf1 := hr5.far (a := ⟨B + 1, b / 64, none⟩) (by simp) (.int .u64 (n64 ((C4.bitsFrom C4.zero b0 i).get (b / 64) ||| BitVec.ofNat 64 (2 ^ (b % 64)))))
          have hbs := hb5.setCell (p := ⟨B + 1, b / 64, none⟩) (by simp) (.int .u64 (n64 ((C4.bitsFrom C4.zero b0 i).get (b / 64) ||| BitVec.ofNat 64 (2 ^ (b % 64)))))
          rw [HS0.out] at hs
          have HS := Lib.hid (And.intro hs (And.intro hf1 hbs))
          clear hs hf1 hbs hx5 hr5 hb5 cx hx hr hb hw5 hand hsh
          go_wp2_with fail
          have hi' := HI.out
          go_roundg (gk - 1)
          case measure => omega
          case rel => exact ⟨i + 1, by omega, by go_num, HS.out.2.2, HS.out.2.1, HS.out.1⟩
        · obtain rfl : i = N := by omega
          have hbig : min hi 255 < ((b0 + i : Nat) : Int) := by
            by_cases h0 : i = 0
            · have := hN0 h0; omega
            · have := hN1 (by omega); omega
          have hE : C4.bitsFrom C4.zero b0 i = rangeF lo hi := by rw [HF.out, ← HN.out]
          rw [hE] at hx
          obtain ⟨c0, c1, c2, c3⟩ := cls_cells hx
          obtain ⟨⟨r0, f0⟩, ⟨r1, f1⟩, ⟨r2, f2⟩, ⟨r3, f3⟩⟩ : _ ∧ _ ∧ _ ∧ _ := ⟨cls_at hr 0 (by decide), cls_at hr 1 (by decide), cls_at hr 2 (by decide), cls_at hr 3 (by decide)⟩
          clear hN1 hN0 hN2 hE
          generalize b0 + i = b at *
          have hbig' : ¬ (b : Int) ≤ min hi 255 := by omega
          go_wp2_with fail
          refine bodyPost_ret (v := .agg #[.int .u64 (n64 (rangeF lo hi).a), .int .u64 (n64 (rangeF lo hi).b), .int .u64 (n64 (rangeF lo hi).c), .int .u64 (n64 (rangeF lo hi).d)]) (by simp [results, Tryd.results22, go_sem, r0, r1, r2, r3]) rfl ⟨rfl, ?_⟩
          exact ((((hb.setCell (by simp) _).setCell (by simp) _).setCell (by simp) _).setCell (by simp) _).mono hBle
end Go.Proofs.YtbiacehgfmgfdaaDoor
