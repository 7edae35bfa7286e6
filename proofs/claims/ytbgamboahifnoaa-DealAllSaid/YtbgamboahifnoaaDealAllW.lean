/- The walk of DealAll. -/
import Derived.Test.YtbgamboahifnoaaDealG
import Derived.Deep.DeepMust
namespace Go.Proofs.Ytbgamboahifnoaa.dealAll
open Go.RowKit kit mix dealL
theorem known : dealF (-1) [2, 0, 5] 3 6 = ([(0, 2), (2, 3), (2, 1)], 2, 0) := by decide
theorem share_cell {w : World} {b off : Nat} {out : List (Nat × Int)} (h : Rd w b off (out.flatMap shareC)) (i : Nat) (hi : i < out.length) :
    w.cell? ⟨b, off + i * 2, none⟩ = some (.int .i64 out[i].1) ∧ w.cell? ⟨b, off + i * 2 + 1, none⟩ = some (.int .i64 out[i].2) := by
  have h0 := flatMap_get (enc := shareC) (c := 2) (fun _ => rfl) out i 0 out[i] (List.getElem?_eq_getElem hi) (by decide)
  have h1 := flatMap_get (enc := shareC) (c := 2) (fun _ => rfl) out i 1 out[i] (List.getElem?_eq_getElem hi) (by decide)
  exact ⟨h _ _ h0, h _ _ h1⟩
theorem made_zero (l : List Int) : (madeCells (Value.int .i64 0).cells (l.length * 1)).toList = (gotL [] l.length).map (.int .i64) := by
  have e : gotL [] l.length = List.replicate l.length 0 := by
    apply List.ext_getElem?
    intro j
    by_cases hj : j < l.length
    · rw [gotL_get _ _ _ hj]; simp [got, hj]
    · rw [List.getElem?_eq_none (by rw [gotL_length]; omega), List.getElem?_eq_none (by simp; omega)]
  rw [e, List.map_replicate, Nat.mul_one]
  exact made1 (.int .i64 0) l.length
set_option maxRecDepth 100000 in
set_option maxHeartbeats 4000000 in
theorem walk (w : World) (last : Int) (wl : (Lit.int .i64 last).wf = true) (v : Value) (need : List Int) (hs : Sl w v need.length (need.map (.int .i64))) (hok : ∀ n ∈ need, okI64 n) (hl : need.length * 8 ≤ 140737488351232)
    (slice : Int) (ws : (Lit.int .i64 slice).wf = true) (budget : Int) (wb : (Lit.int .i64 budget).wf = true) :
    Calls Try.prog 11 #[.int .i64 last, v, .int .i64 slice, .int .i64 budget] w fun e w' => e = .returned (.bool true) ∧ Below w.heap.size w w' := by
  have hlast := okI64_of wl
  have hslice := okI64_of ws
  clear wl ws wb
  go_enter Try.func11, Try.ntmps11
  go_wp2_with fail
  refine (deal_calls (-1) _ [2, 0, 5] 3 6 _ (by unfold okI64; decide) (by unfold okI64; decide) (sl_block (heap_alloc_new w _) rfl (by decide)) (by unfold okI64; decide) (by decide)).mono ?_
  rintro e w1 ⟨v1, he, hown1, hb1⟩
  rw [known] at he hown1
  subst he
  have hb1' : Below w.heap.size w w1 := ((Below.refl _ _).alloc (Nat.le_refl _) _).trans (hb1.mono (by simp))
  clear hb1
  rcases hown1.2 with ⟨_, h0⟩ | ⟨g1, cap1, cur1, rfl, _⟩
  · cases h0
  clear hown1
  have hs1 := hs.gr hb1'
  clear hs
  go_wp2_with fail
  refine (deal_calls last v need slice budget _ hlast hslice hs1 hok hl).mono ?_
  rintro e w2 ⟨v2, rfl, hown2, hb2⟩
  have hb2' : Below w.heap.size w w2 := hb1'.trans (hb2.mono hb1'.size)
  have hs2 := hs1.gr hb2
  clear hb1' hb2 hs1 hok
  by_cases hE : (dealF last need slice budget).2.2 = 0
  · obtain ⟨c1, c2, hpos, c3, c4, hout⟩ := dealF_ok _ _ _ _ hE
    rw [hE]
    rw [hout] at hown2
    have hnn : ∀ k, k < need.length → 0 ≤ need.getD k 0 := fun k hk => by
      rw [List.getD_eq_getElem?_getD, List.getElem?_eq_getElem hk]; exact (hpos _ (List.getElem_mem hk)).1
    have hA := deals_all slice c3 budget.toNat last need budget hnn c4 (by omega)
    generalize (deals slice budget.toNat last need budget).1 = out at *
    obtain ⟨a1, a2, a3, a4, a5⟩ := hA
    have A1 := Lib.hid a1
    have A2 := Lib.hid a2
    have A4 := Lib.hid a4
    have HP := Lib.hid hpos
    have hposx : ∀ x ∈ out, 1 ≤ x.2 := fun x hx => (a1 x hx).2.1
    have HT := Lib.hid (total_take out hposx)
    have HG := Lib.hid (got_take out hposx)
    have htot : total out ≤ 10000 := by omega
    have hsl2 := Sl.of_own hown2
    clear a1 a2 a3 a4 hpos hout hE hnn hown2 hposx
    obtain ⟨bsO, capO, rfl, hcO, hmO, hrO⟩ := hsl2
    obtain ⟨iI, hiI, hzI0, hzI1, hzI2⟩ := info_parts infoInt
    obtain ⟨bsN, capN, rfl, hcN, hmN, hrN⟩ := hs2
    go_wp2_with (at_make; go_must (refine wpList_make_full _ rfl _ _ _ rfl w2.heap.size 3 iI _ 1 Try.underlying41 hiI hzI0 hzI1 _ _ _ _ need.length rfl rfl rfl rfl (by rw [hzI2]; omega) (by unfold maxLen; omega) (Nat.le_refl _) ?_); intro w3 hownG hgG)
    have hwG := rd_own hownG
    rw [show (madeCells (Value.int .i64 0).cells (need.length * 1)).toList = (gotL [] need.length).map (.int .i64) from made_zero need] at hwG
    have hg3 := (hownG.lt _ rfl).2
    have hb3 : Below w2.heap.size w2 w3 := (Below.refl _ _).grown hgG (Nat.le_refl _) (fun k hk => by cases hk)
    clear hownG hgG
    obtain ⟨gG, hgG⟩ : ∃ gG, gG = w2.heap.size := ⟨_, rfl⟩
    rw [← hgG] at hwG hg3 ⊢
    have hgB : w2.heap.size ≤ gG := by omega
    clear hgG
    go_loopg [17, 58] out.length (fun g s c wr => ∃ i : Nat, i + g = out.length ∧ c = .int .i64 i ∧ s = .int .i64 (total (out.take i)) ∧ Below w2.heap.size w2 wr ∧ gG < wr.heap.size ∧ Wr wr gG 0 ((gotL (out.take i) need.length).map (.int .i64)))
    case atStart => exact ⟨0, by omega, rfl, rfl, hb3, hg3, hwG⟩
    case round =>
      obtain ⟨i, hi, rfl, rfl, hb4, hg4, hwG4⟩ := hrel
      clear hb3 hg3 hwG
      have ht := HT.out i
      by_cases hlt : i < out.length
      · obtain ⟨bO, offO, rfl, hO⟩ := hrO (by omega)
        have hx := A1.out out[i] (List.getElem_mem hlt)
        obtain ⟨hx1, hx2, hx3⟩ := hx
        obtain ⟨hc1, hc2⟩ := share_cell (hO.gr hb4) i hlt
        generalize hxe : out[i] = x at *
        obtain ⟨k, m⟩ := x
        simp only at hx1 hx2 hx3 hc1 hc2
        have hsn := take_snoc' out i hlt
        rw [hxe] at hsn
        have hg0 := HG.out i k
        have hg1 := HG.out (i + 1) k
        have ht1 := HT.out (i + 1)
        rw [hsn, got_snoc] at hg1
        rw [hsn, total_snoc] at ht1
        simp only [if_true] at hg1 ht1
        have hnk : got out k ≤ 1073741824 := by
          have h1 := A2.out k hx1
          have h2 := (HP.out need[k] (List.getElem_mem hx1)).2
          rw [List.getD_eq_getElem?_getD, List.getElem?_eq_getElem hx1] at h1
          simp at h1; omega
        have HSN := Lib.hid hsn
        have hkl : k < ((gotL (out.take i) need.length).map (Value.int .i64)).length := by rw [List.length_map, gotL_length]; exact hx1
        have hcG := hwG4.at k hkl
        have hcGv : ((gotL (out.take i) need.length).map (Value.int .i64))[k] = .int .i64 (got (out.take i) k) := by
          have h := gotL_get (out.take i) need.length k hx1
          apply Option.some.inj
          rw [← List.getElem?_eq_getElem, List.getElem?_map, h]; rfl
        rw [hcGv, Nat.zero_add] at hcG
        have hup : ∀ w', Up (wr.alloc (.cells #[Value.int .i64 k, Value.int .i64 m] 68)).drew w' → w'.cell? ⟨wr.heap.size, 0, none⟩ = some (.int .i64 k) ∧ w'.cell? ⟨wr.heap.size, 1, none⟩ = some (.int .i64 m) ∧ w'.cell? ⟨gG, k, none⟩ = some (.int .i64 (got (out.take i) k)) ∧ w'.frozen? ⟨gG, k, none⟩ = false := fun w' hw => by
          have hz : wr.heap.size < (wr.alloc (.cells #[Value.int .i64 k, Value.int .i64 m] 68)).drew.heap.size := by simp
          have q0 : (wr.alloc (.cells #[Value.int .i64 k, Value.int .i64 m] 68)).drew.heap[wr.heap.size]? = _ := heap_alloc_new wr _
          refine ⟨?_, ?_, ?_, ?_⟩
          · rw [hw.cell hz, cell_of_row _ _ 0 _ _ _ q0]; rfl
          · rw [hw.cell hz, cell_of_row _ _ 1 _ _ _ q0]; rfl
          · rw [hw.cell (show gG < _ by simp; omega)]; exact (World.cell?_alloc_lt _ _ _ hg4).trans hcG.1
          · rw [hw.frozen (show gG < _ by simp; omega)]; exact (World.frozen?_alloc_old _ _ _ (by simp; omega)).trans hcG.2
        have hup0 := fun w' h => (hup w' h).1
        have hup1 := fun w' h => (hup w' h).2.1
        have hup2 := fun w' h => (hup w' h).2.2.1
        have hup3 := fun w' h => (hup w' h).2.2.2
        have hset := hwG4.set k hkl
        clear hup hcG hcGv hxe hsn
        go_upto_region 14 with (fail)
        refine mix 9 (List.replicate 9 true) rfl (by kernel_rfl) (by kernel_rfl) (by intro c a d v w h; cases d <;> exact h) (Up _) (closed_up _) (Gr.refl _) ?_
        simp only [List.take_succ_cons, List.take_zero, List.drop_succ_cons, List.drop_zero, List.replicate]
        repeat (first
          | (refine wpM_val (by rfl) (fun w hSw => by go_simp; (try (simp only [↓IntWalk.iteOmega]; try go_simp)); (try go_bits); first | done | with_reducible rfl) ?_; simp only [Act.put, List.setIfInBounds_toArray, List.set_cons_zero, List.set_cons_succ])
          | (refine wpM_skip (by rfl) ?_; simp only [Act.put, List.setIfInBounds_toArray, List.set_cons_zero, List.set_cons_succ]))
        refine wpM_end fun w5 hw5 => ?_
        have k0 := hup0 w5 hw5
        have k1 := hup1 w5 hw5
        have k2 := hup2 w5 hw5
        have k3 := hup3 w5 hw5
        have hb5 : Below w2.heap.size w2 w5 := below_gr ((hb4.alloc hb4.size _).drew) (by simp; have := hb4.size; omega) hw5
        have hwG5 := (hwG4.gr (((Below.refl _ _).alloc (Nat.le_refl _) _).drew)).gr hw5
        clear hup0 hup1 hup2 hup3
        go_wp2_with fail
        have hset5 := hwG5.set k hkl (.int .i64 (got (out.take i) k + m))
        rw [Nat.zero_add] at hset5
        have HS := Lib.hid hset5
        have HB5 := Lib.hid (hb5.setCell (p := ⟨gG, k, none⟩) hgB (.int .i64 (got (out.take i) k + m)))
        have hz5 : gG < w5.heap.size := by have := hw5.size; simp at this; omega
        go_roundg (gk - 1)
        case measure => omega
        case rel =>
          refine ⟨i + 1, by omega, by go_num, ?_, HB5.out, by simpa [World.setCell] using hz5, ?_⟩
          · rw [HSN.out, total_snoc]
          · have h := HS.out
            rw [← List.map_set (f := Value.int .i64), gotL_snoc _ _ _ _ hx1, ← HSN.out] at h
            exact h
      · obtain rfl : i = out.length := by omega
        rw [List.take_of_length_le (Nat.le_refl _)] at ht hwG4 ⊢
        have hnl : need.length ≤ 100 := by omega
        have hsum := A4.out
        have HSum := Lib.hid hsum
        have HS0 := Lib.hid (sum_take need HP.out)
        clear hsum hrO htot
        go_wp2_with fail
        go_loopg [16, 99] need.length (fun g s c w' => w' = wr ∧ ∃ j : Nat, j + g = need.length ∧ c = .int .i64 j ∧ s = .int .i64 (need.take j).sum)
        case atStart => exact ⟨rfl, 0, by omega, rfl, rfl⟩
        case round =>
          obtain ⟨rfl, j, hj, rfl, rfl⟩ := hrel
          have hsj := HS0.out j
          by_cases hjl : j < need.length
          · obtain ⟨bN, offN, rfl, hN⟩ := hrN (by omega)
            have hcn := int_cell ((hN.gr hb4)) j hjl
            have hpj := HP.out need[j] (List.getElem_mem hjl)
            have hkl : j < ((gotL out need.length).map (Value.int .i64)).length := by rw [List.length_map, gotL_length]; exact hjl
            have hcG := (hwG4.at j hkl).1
            have hcGv : ((gotL out need.length).map (Value.int .i64))[j] = .int .i64 (got out j) := by
              have h := gotL_get out need.length j hjl
              apply Option.some.inj
              rw [← List.getElem?_eq_getElem, List.getElem?_map, h]; rfl
            rw [hcGv, Nat.zero_add] at hcG
            have hle : ¬ need[j] < got out j := by
              have h1 := A2.out j hjl
              rw [List.getD_eq_getElem?_getD, List.getElem?_eq_getElem hjl] at h1
              simp at h1; omega
            have hsj1 := HS0.out (j + 1)
            have htk : need.take (j + 1) = need.take j ++ [need[j]] := List.take_succ_eq_append_getElem hjl
            have HTK := Lib.hid htk
            rw [htk, List.sum_append] at hsj1
            simp only [List.sum_cons, List.sum_nil, Int.add_zero] at hsj1
            clear hrN hcGv hkl htk
            go_wp2_with fail
            go_roundg (gk - 1)
            case measure => omega
            case rel => exact ⟨rfl, j + 1, by omega, by go_num, by rw [HTK.out, List.sum_append]; simp⟩
          · obtain rfl : j = need.length := by omega
            rw [List.take_of_length_le (Nat.le_refl _)] at hsj ⊢
            clear hrN
            by_cases hm : need.sum ≤ budget
            · have hq : (total out == need.sum) = true := by rw [HSum.out]; simp; omega
              go_wp2_with fail
              go_ret
              exact ⟨rfl, hb2'.trans (hb4.mono hb2'.size)⟩
            · have hq : (total out == budget) = true := by rw [HSum.out]; simp; omega
              go_wp2_with fail
              go_ret
              exact ⟨rfl, hb2'.trans (hb4.mono hb2'.size)⟩
  · have h0 := dealF_err _ _ _ _ hE
    have hr := dealF_range last need slice budget
    rw [h0] at hown2
    rcases hown2.2 with ⟨rfl, _⟩ | ⟨g, cap, cur, rfl, _, _, h1, h2, h3, _⟩
    · clear h0 hown2
      rcases hr with hr | hr | hr
      · exact absurd hr hE
      all_goals
        rw [hr]
        clear hr hE
        go_wp2
        go_ret
        exact ⟨rfl, hb2'⟩
    · clear h0 hown2
      rcases hr with hr | hr | hr
      · exact absurd hr hE
      all_goals
        rw [hr]
        clear hr hE
        go_wp2
        go_ret
        exact ⟨rfl, hb2'⟩
end Go.Proofs.Ytbgamboahifnoaa.dealAll
