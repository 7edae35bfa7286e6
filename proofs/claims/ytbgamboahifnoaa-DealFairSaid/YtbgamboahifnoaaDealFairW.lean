/- The walk of DealFair. -/
import Derived.Test.YtbgamboahifnoaaDealG
import Derived.Deep.DeepMust
namespace Go.Proofs.Ytbgamboahifnoaa.dealFair
open Go.RowKit kit mix dealL
theorem known : dealF 0 [9, 9] 4 8 = ([(1, 4), (0, 4)], 0, 0) := by decide
theorem share_cell {w : World} {b off : Nat} {out : List (Nat × Int)} (h : Rd w b off (out.flatMap shareC)) (i : Nat) (hi : i < out.length) :
    w.cell? ⟨b, off + i * 2, none⟩ = some (.int .i64 out[i].1) ∧ w.cell? ⟨b, off + i * 2 + 1, none⟩ = some (.int .i64 out[i].2) := by
  have h0 := flatMap_get (enc := shareC) (c := 2) (fun _ => rfl) out i 0 out[i] (List.getElem?_eq_getElem hi) (by decide)
  have h1 := flatMap_get (enc := shareC) (c := 2) (fun _ => rfl) out i 1 out[i] (List.getElem?_eq_getElem hi) (by decide)
  exact ⟨h _ _ h0, h _ _ h1⟩
theorem made_zero (l : List Int) : (madeCells (Value.int .i64 0).cells (l.length * 1)).toList = (gotL [] l.length).map (.int .i64) := by
  have e : gotL [] l.length = List.replicate l.length 0 := by
    apply List.ext_getElem?
    intro j
    by_cases hj : j < l.length
    · rw [gotL_get _ _ _ hj]; simp [got, hj]
    · rw [List.getElem?_eq_none (by rw [gotL_length]; omega), List.getElem?_eq_none (by simp; omega)]
  rw [e, List.map_replicate, Nat.mul_one]
  exact made1 (.int .i64 0) l.length
set_option maxRecDepth 100000 in
set_option maxHeartbeats 4000000 in
theorem walk (w : World) (last : Int) (wl : (Lit.int .i64 last).wf = true) (v : Value) (need : List Int) (hs : Sl w v need.length (need.map (.int .i64))) (hok : ∀ n ∈ need, okI64 n) (hl : need.length * 8 ≤ 140737488351232)
    (slice : Int) (ws : (Lit.int .i64 slice).wf = true) (budget : Int) (wb : (Lit.int .i64 budget).wf = true) :
    Calls Try.prog 12 #[.int .i64 last, v, .int .i64 slice, .int .i64 budget] w fun e w' => e = .returned (.bool true) ∧ Below w.heap.size w w' := by
  have hlast := okI64_of wl
  have hslice := okI64_of ws
  clear wl ws wb
  go_enter Try.func12, Try.ntmps12
  go_wp2_with fail
  refine (deal_calls 0 _ [9, 9] 4 8 _ (by unfold okI64; decide) (by unfold okI64; decide) (sl_block (heap_alloc_new w _) rfl (by decide)) (by unfold okI64; decide) (by decide)).mono ?_
  rintro e w1 ⟨v1, he, hown1, hb1⟩
  rw [known] at he hown1
  subst he
  have hb1' : Below w.heap.size w w1 := ((Below.refl _ _).alloc (Nat.le_refl _) _).trans (hb1.mono (by simp))
  clear hb1
  rcases hown1.2 with ⟨_, h0⟩ | ⟨g1, cap1, cur1, rfl, _⟩
  · cases h0
  have hfirst := (rd_own hown1).rd 0 (.int .i64 1) rfl
  rw [Nat.zero_add] at hfirst
  clear hown1
  have hs1 := hs.gr hb1'
  clear hs
  go_wp2_with fail
  refine (deal_calls last v need slice budget _ hlast hslice hs1 hok hl).mono ?_
  rintro e w2 ⟨v2, rfl, hown2, hb2⟩
  have hb2' : Below w.heap.size w w2 := hb1'.trans (hb2.mono hb1'.size)
  have hs2 := hs1.gr hb2
  clear hb1' hb2 hs1 hok hfirst
  by_cases hE : (dealF last need slice budget).2.2 = 0
  · obtain ⟨c1, c2, hpos, c3, c4, hout⟩ := dealF_ok _ _ _ _ hE
    rw [hE]
    rw [hout] at hown2
    have hnn : ∀ k, k < need.length → 0 ≤ need.getD k 0 := fun k hk => by
      rw [List.getD_eq_getElem?_getD, List.getElem?_eq_getElem hk]; exact (hpos _ (List.getElem_mem hk)).1
    have hA := deals_all slice c3 budget.toNat last need budget hnn c4 (by omega)
    have hFair : ∀ i k, i < need.length → k < need.length → 0 < need.getD i 0 - got (deals slice budget.toNat last need budget).1 i → 0 < need.getD k 0 - got (deals slice budget.toNat last need budget).1 k →
        got (deals slice budget.toNat last need budget).1 i - got (deals slice budget.toNat last need budget).1 k ≤ slice := fun i k hi hk h1 h2 => by
      by_cases hik : i = k
      · subst hik; omega
      · have := deals_fair slice c3 i k hik budget.toNat last need budget 0 hnn c4 hi hk h1 h2 (by omega) (by omega) (fun _ => ⟨fun _ => by omega, fun _ => by omega⟩) (by omega)
        omega
    generalize (deals slice budget.toNat last need budget).1 = out at *
    obtain ⟨a1, a2, a3, a4, a5⟩ := hA
    have HF := Lib.hid hFair
    clear hFair
    have A1 := Lib.hid a1
    have A2 := Lib.hid a2
    have A4 := Lib.hid a4
    have HP := Lib.hid hpos
    have hposx : ∀ x ∈ out, 1 ≤ x.2 := fun x hx => (a1 x hx).2.1
    have HT := Lib.hid (total_take out hposx)
    have HG := Lib.hid (got_take out hposx)
    have htot : total out ≤ 10000 := by omega
    have hsl2 := Sl.of_own hown2
    clear a1 a2 a3 a4 hpos hout hE hnn hown2 hposx
    obtain ⟨bsO, capO, rfl, hcO, hmO, hrO⟩ := hsl2
    obtain ⟨iI, hiI, hzI0, hzI1, hzI2⟩ := info_parts infoInt
    obtain ⟨bsN, capN, rfl, hcN, hmN, hrN⟩ := hs2
    go_wp2_with (at_make; go_must (refine wpList_make_full _ rfl _ _ _ rfl w2.heap.size 3 iI _ 1 Try.underlying41 hiI hzI0 hzI1 _ _ _ _ need.length rfl rfl rfl rfl (by rw [hzI2]; omega) (by unfold maxLen; omega) (Nat.le_refl _) ?_); intro w3 hownG hgG)
    have hwG := rd_own hownG
    rw [show (madeCells (Value.int .i64 0).cells (need.length * 1)).toList = (gotL [] need.length).map (.int .i64) from made_zero need] at hwG
    have hg3 := (hownG.lt _ rfl).2
    have hb3 : Below w2.heap.size w2 w3 := (Below.refl _ _).grown hgG (Nat.le_refl _) (fun k hk => by cases hk)
    clear hownG hgG
    obtain ⟨gG, hgG⟩ : ∃ gG, gG = w2.heap.size := ⟨_, rfl⟩
    rw [← hgG] at hwG hg3 ⊢
    have hgB : w2.heap.size ≤ gG := by omega
    clear hgG
    go_loopg [59] out.length (fun g c wr => ∃ i : Nat, i + g = out.length ∧ c = .int .i64 i ∧ Below w2.heap.size w2 wr ∧ gG < wr.heap.size ∧ Wr wr gG 0 ((gotL (out.take i) need.length).map (.int .i64)))
    case atStart => exact ⟨0, by omega, rfl, hb3, hg3, hwG⟩
    case round =>
      obtain ⟨i, hi, rfl, hb4, hg4, hwG4⟩ := hrel
      clear hb3 hg3 hwG
      have ht := HT.out i
      by_cases hlt : i < out.length
      · obtain ⟨bO, offO, rfl, hO⟩ := hrO (by omega)
        have hx := A1.out out[i] (List.getElem_mem hlt)
        obtain ⟨hx1, hx2, hx3⟩ := hx
        obtain ⟨hc1, hc2⟩ := share_cell (hO.gr hb4) i hlt
        generalize hxe : out[i] = x at *
        obtain ⟨k, m⟩ := x
        simp only at hx1 hx2 hx3 hc1 hc2
        have hsn := take_snoc' out i hlt
        rw [hxe] at hsn
        have hg0 := HG.out i k
        have hg1 := HG.out (i + 1) k
        have ht1 := HT.out (i + 1)
        rw [hsn, got_snoc] at hg1
        rw [hsn, total_snoc] at ht1
        simp only [if_true] at hg1 ht1
        have hnk : got out k ≤ 1073741824 := by
          have h1 := A2.out k hx1
          have h2 := (HP.out need[k] (List.getElem_mem hx1)).2
          rw [List.getD_eq_getElem?_getD, List.getElem?_eq_getElem hx1] at h1
          simp at h1; omega
        have HSN := Lib.hid hsn
        have hkl : k < ((gotL (out.take i) need.length).map (Value.int .i64)).length := by rw [List.length_map, gotL_length]; exact hx1
        have hcG := hwG4.at k hkl
        have hcGv : ((gotL (out.take i) need.length).map (Value.int .i64))[k] = .int .i64 (got (out.take i) k) := by
          have h := gotL_get (out.take i) need.length k hx1
          apply Option.some.inj
          rw [← List.getElem?_eq_getElem, List.getElem?_map, h]; rfl
        rw [hcGv, Nat.zero_add] at hcG
        have hup : ∀ w', Up (wr.alloc (.cells #[Value.int .i64 k, Value.int .i64 m] 68)).drew w' → w'.cell? ⟨wr.heap.size, 0, none⟩ = some (.int .i64 k) ∧ w'.cell? ⟨wr.heap.size, 1, none⟩ = some (.int .i64 m) ∧ w'.cell? ⟨gG, k, none⟩ = some (.int .i64 (got (out.take i) k)) ∧ w'.frozen? ⟨gG, k, none⟩ = false := fun w' hw => by
          have hz : wr.heap.size < (wr.alloc (.cells #[Value.int .i64 k, Value.int .i64 m] 68)).drew.heap.size := by simp
          have q0 : (wr.alloc (.cells #[Value.int .i64 k, Value.int .i64 m] 68)).drew.heap[wr.heap.size]? = _ := heap_alloc_new wr _
          refine ⟨?_, ?_, ?_, ?_⟩
          · rw [hw.cell hz, cell_of_row _ _ 0 _ _ _ q0]; rfl
          · rw [hw.cell hz, cell_of_row _ _ 1 _ _ _ q0]; rfl
          · rw [hw.cell (show gG < _ by simp; omega)]; exact (World.cell?_alloc_lt _ _ _ hg4).trans hcG.1
          · rw [hw.frozen (show gG < _ by simp; omega)]; exact (World.frozen?_alloc_old _ _ _ (by simp; omega)).trans hcG.2
        have hup0 := fun w' h => (hup w' h).1
        have hup1 := fun w' h => (hup w' h).2.1
        have hup2 := fun w' h => (hup w' h).2.2.1
        have hup3 := fun w' h => (hup w' h).2.2.2
        have hset := hwG4.set k hkl
        clear hup hcG hcGv hxe hsn
        go_upto_region 11 with (fail)
        refine mix 9 (List.replicate 9 true) rfl (by kernel_rfl) (by kernel_rfl) (by intro c a d v w h; cases d <;> exact h) (Up _) (closed_up _) (Gr.refl _) ?_
        simp only [List.take_succ_cons, List.take_zero, List.drop_succ_cons, List.drop_zero, List.replicate]
        repeat (first
          | (refine wpM_val (by rfl) (fun w hSw => by go_simp; (try (simp only [↓IntWalk.iteOmega]; try go_simp)); (try go_bits); first | done | with_reducible rfl) ?_; simp only [Act.put, List.setIfInBounds_toArray, List.set_cons_zero, List.set_cons_succ])
          | (refine wpM_skip (by rfl) ?_; simp only [Act.put, List.setIfInBounds_toArray, List.set_cons_zero, List.set_cons_succ]))
        refine wpM_end fun w5 hw5 => ?_
        have k0 := hup0 w5 hw5
        have k1 := hup1 w5 hw5
        have k2 := hup2 w5 hw5
        have k3 := hup3 w5 hw5
        have hb5 : Below w2.heap.size w2 w5 := below_gr ((hb4.alloc hb4.size _).drew) (by simp; have := hb4.size; omega) hw5
        have hwG5 := (hwG4.gr (((Below.refl _ _).alloc (Nat.le_refl _) _).drew)).gr hw5
        clear hup0 hup1 hup2 hup3
        go_wp2_with fail
        have hset5 := hwG5.set k hkl (.int .i64 (got (out.take i) k + m))
        rw [Nat.zero_add] at hset5
        have HS := Lib.hid hset5
        have HB5 := Lib.hid (hb5.setCell (p := ⟨gG, k, none⟩) hgB (.int .i64 (got (out.take i) k + m)))
        have hz5 : gG < w5.heap.size := by have := hw5.size; simp at this; omega
        go_roundg (gk - 1)
        case measure => omega
        case rel =>
          refine ⟨i + 1, by omega, by go_num, HB5.out, by simpa [World.setCell] using hz5, ?_⟩
          · have h := HS.out
            rw [← List.map_set (f := Value.int .i64), gotL_snoc _ _ _ _ hx1, ← HSN.out] at h
            exact h
      · obtain rfl : i = out.length := by omega
        rw [List.take_of_length_le (Nat.le_refl _)] at ht hwG4
        have hnl : need.length ≤ 100 := by omega
        clear hrO htot
        go_wp2_with fail
        go_loopg [75] need.length (fun g c w' => ∃ i : Nat, i + g = need.length ∧ c = .int .i64 i ∧ Below w2.heap.size w2 w' ∧ Wr w' gG 0 ((gotL out need.length).map (.int .i64)))
        case atStart => exact ⟨0, by omega, rfl, hb4, hwG4⟩
        case round =>
          obtain ⟨i, hi, rfl, hb6, hwG6⟩ := hrel
          by_cases hil : i < need.length
          · obtain ⟨G, hG⟩ : ∃ G, G + 1 = gk := ⟨gk - 1, by omega⟩
            go_wp2_with fail
            go_loopg [80] need.length (fun g c w' => ∃ k : Nat, k + g = need.length ∧ c = .int .i64 k ∧ Below w2.heap.size w2 w' ∧ Wr w' gG 0 ((gotL out need.length).map (.int .i64)))
            case atStart => exact ⟨0, by omega, rfl, hb6, hwG6⟩
            case round =>
              clear hb6 hwG6
              obtain ⟨k, hk, rfl, hb6, hwG6⟩ := hrel
              by_cases hkl : k < need.length
              · obtain ⟨bN, offN, rfl, hN⟩ := hrN (by omega)
                have hcell : ∀ (j : Nat) (hj : j < need.length) w', Up wr.drew w' → w'.cell? ⟨bN, offN + j, none⟩ = some (.int .i64 need[j]) := fun j hj w' hw => int_cell (((hN.gr hb6).gr (Gr.drew _)).gr hw) j hj
                have hgot : ∀ (j : Nat) (hj : j < need.length) w', Up wr.drew w' → w'.cell? ⟨gG, j, none⟩ = some (.int .i64 (got out j)) := fun j hj w' hw => by
                  have hkl : j < ((gotL out need.length).map (Value.int .i64)).length := by rw [List.length_map, gotL_length]; exact hj
                  have h1 := (((hwG6.gr (Gr.drew _)).gr hw).at j hkl).1
                  have h2 : ((gotL out need.length).map (Value.int .i64))[j] = .int .i64 (got out j) := by
                    have h := gotL_get out need.length j hj
                    apply Option.some.inj
                    rw [← List.getElem?_eq_getElem, List.getElem?_map, h]; rfl
                  rw [h2, Nat.zero_add] at h1
                  exact h1
                have n1 := hcell i hil
                have n2 := hcell k hkl
                have g1' := hgot i hil
                have g2' := hgot k hkl
                have bd : ∀ (j : Nat) (hj : j < need.length), 0 ≤ got out j ∧ got out j ≤ need[j] ∧ need[j] ≤ 1073741824 := fun j hj => by
                  have h1 := A2.out j hj
                  have h2 := (HG.out 0 j)
                  have h3 := (HP.out need[j] (List.getElem_mem hj)).2
                  rw [List.getD_eq_getElem?_getD, List.getElem?_eq_getElem hj] at h1
                  simp [got] at h1 h2 ⊢; omega
                have b1 := bd i hil
                have b2 := bd k hkl
                have hfair := HF.out i k hil hkl
                rw [List.getD_eq_getElem?_getD, List.getElem?_eq_getElem hil, List.getD_eq_getElem?_getD, List.getElem?_eq_getElem hkl] at hfair
                simp only [Option.getD_some] at hfair
                have HFa := Lib.hid hfair
                clear hcell hgot bd hrN hfair
                go_upto_region 19 with (fail)
                by_cases q1 : got out i < need[i]
                · have q1' : decide (got out i < need[i]) = true := by simpa using q1
                  by_cases q2 : got out k < need[k]
                  · have q2' : decide (got out k < need[k]) = true := by simpa using q2
                    have q3' : decide (slice < got out i - got out k) = false := by
                      have := HFa.out (by omega) (by omega)
                      simp; omega
                    refine mix 32 (List.replicate 32 true) rfl (by kernel_rfl) (by kernel_rfl) (by intro c a d v w h; cases d <;> exact h) (Up wr.drew) (closed_up _) (Gr.refl _) ?_
                    simp only [List.take_succ_cons, List.take_zero, List.drop_succ_cons, List.drop_zero, List.replicate]
                    repeat (first
                      | (refine wpM_val (by rfl) (fun w hSw => by go_simp; (try (simp only [↓IntWalk.iteOmega]; try go_simp)); (try go_bits); first | done | with_reducible rfl) ?_; simp only [Act.put, List.setIfInBounds_toArray, List.set_cons_zero, List.set_cons_succ])
                      | (refine wpM_skip (by rfl) ?_; simp only [Act.put, List.setIfInBounds_toArray, List.set_cons_zero, List.set_cons_succ]))
                    refine wpM_end fun w5 hw5 => ?_
                    have hb7 := below_gr hb6.drew (by simp; exact hb6.size) hw5
                    have hwG7 := (hwG6.gr (Gr.drew _)).gr hw5
                    clear n1 n2 g1' g2' hw5 hb6 hwG6
                    go_wp2_with fail
                    go_roundg (gk - 1)
                    case measure => omega
                    case rel => exact ⟨k + 1, by omega, by go_num, hb7, hwG7⟩
                  · have q2' : decide (got out k < need[k]) = false := by simpa using q2
                    refine mix 32 (List.replicate 32 true) rfl (by kernel_rfl) (by kernel_rfl) (by intro c a d v w h; cases d <;> exact h) (Up wr.drew) (closed_up _) (Gr.refl _) ?_
                    simp only [List.take_succ_cons, List.take_zero, List.drop_succ_cons, List.drop_zero, List.replicate]
                    repeat (first
                      | (refine wpM_val (by rfl) (fun w hSw => by go_simp; (try (simp only [↓IntWalk.iteOmega]; try go_simp)); (try go_bits); first | done | with_reducible rfl) ?_; simp only [Act.put, List.setIfInBounds_toArray, List.set_cons_zero, List.set_cons_succ])
                      | (refine wpM_skip (by rfl) ?_; simp only [Act.put, List.setIfInBounds_toArray, List.set_cons_zero, List.set_cons_succ]))
                    refine wpM_end fun w5 hw5 => ?_
                    have hb7 := below_gr hb6.drew (by simp; exact hb6.size) hw5
                    have hwG7 := (hwG6.gr (Gr.drew _)).gr hw5
                    clear n1 n2 g1' g2' hw5 hb6 hwG6
                    go_wp2_with fail
                    go_roundg (gk - 1)
                    case measure => omega
                    case rel => exact ⟨k + 1, by omega, by go_num, hb7, hwG7⟩
                · have q1' : decide (got out i < need[i]) = false := by simpa using q1
                  refine mix 32 (List.replicate 32 true) rfl (by kernel_rfl) (by kernel_rfl) (by intro c a d v w h; cases d <;> exact h) (Up wr.drew) (closed_up _) (Gr.refl _) ?_
                  simp only [List.take_succ_cons, List.take_zero, List.drop_succ_cons, List.drop_zero, List.replicate]
                  repeat (first
                    | (refine wpM_val (by rfl) (fun w hSw => by go_simp; (try (simp only [↓IntWalk.iteOmega]; try go_simp)); (try go_bits); first | done | with_reducible rfl) ?_; simp only [Act.put, List.setIfInBounds_toArray, List.set_cons_zero, List.set_cons_succ])
                    | (refine wpM_skip (by rfl) ?_; simp only [Act.put, List.setIfInBounds_toArray, List.set_cons_zero, List.set_cons_succ]))
                  refine wpM_end fun w5 hw5 => ?_
                  have hb7 := below_gr hb6.drew (by simp; exact hb6.size) hw5
                  have hwG7 := (hwG6.gr (Gr.drew _)).gr hw5
                  clear n1 n2 g1' g2' hw5 hb6 hwG6
                  go_wp2_with fail
                  go_roundg (gk - 1)
                  case measure => omega
                  case rel => exact ⟨k + 1, by omega, by go_num, hb7, hwG7⟩
              · clear hrN
                go_wp2_with fail
                go_roundg G
                case measure => omega
                case rel => exact ⟨i + 1, by omega, by go_num, hb6, hwG6⟩
          · clear hrN
            go_wp2
            go_ret
            exact ⟨rfl, hb2'.trans (hb6.mono hb2'.size)⟩
  · have h0 := dealF_err _ _ _ _ hE
    have hr := dealF_range last need slice budget
    rw [h0] at hown2
    rcases hown2.2 with ⟨rfl, _⟩ | ⟨g, cap, cur, rfl, _, _, h1, h2, h3, _⟩
    · clear h0 hown2
      rcases hr with hr | hr | hr
      · exact absurd hr hE
      all_goals
        rw [hr]
        clear hr hE
        go_wp2
        go_ret
        exact ⟨rfl, hb2'⟩
    · clear h0 hown2
      rcases hr with hr | hr | hr
      · exact absurd hr hE
      all_goals
        rw [hr]
        clear hr hE
        go_wp2
        go_ret
        exact ⟨rfl, hb2'⟩
end Go.Proofs.Ytbgamboahifnoaa.dealFair
