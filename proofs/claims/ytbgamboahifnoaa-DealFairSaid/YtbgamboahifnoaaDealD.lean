/- What deal.Deal computes. -/
import Derived.Test.YtbgamboahifnoaaDeal
import Derived.Test.YtbgamboahifnoaaDealN
import Derived.Test.YtbgamboahifnoaaClone
namespace Go.Proofs.Ytbgamboahifnoaa
open Go.RowKit kit mix dealL
def shareC (x : Nat × Int) : List Value := [.int .i64 x.1, .int .i64 x.2]
theorem infoShare : (Try.prog.info? 68).map (fun i => (i.zero, i.size, i.bytes)) = some (some (.agg #[.int .i64 0, .int .i64 0]), 2, 16) := by kernel_rfl
theorem infoBool : (Try.prog.info? 4).map (fun i => (i.zero, i.size, i.bytes)) = some (some (.bool false), 1, 1) := by kernel_rfl
/-- the answer: the shares, who was last, the error -/
def dealF (last : Int) (need : List Int) (slice budget : Int) : List (Nat × Int) × Int × Int :=
  if 100 < need.length ∨ 10000 < budget then ([], 0, 2) else if need.any oddNeed = true ∨ slice < 1 ∨ budget < 0 then ([], 0, 1) else
  ((deals slice budget.toNat last need budget).1, (deals slice budget.toNat last need budget).2, 0)
/-- how it is handed back -/
def GivesDeal (w : World) (r : List (Nat × Int) × Int × Int) (e : Ending) (w' : World) : Prop :=
  ∃ v', e = .returned (.tuple #[v', .int .i64 r.2.1, .int .i64 r.2.2]) ∧ w'.ownsRow w.heap.size 68 2 v' r.1.length (r.1.flatMap shareC) ∧ Below w.heap.size w w'
def fillR (l : List Int) (i : Nat) : List Bool := (ready l).take i ++ List.replicate (l.length - i) false
theorem fillR_length (l : List Int) (i : Nat) (h : i ≤ l.length) : (fillR l i).length = l.length := by simp [fillR, ready_length]; omega
theorem fillR_set (l : List Int) (i : Nat) (h : i < l.length) : (fillR l i).set i (decide (0 < l[i])) = fillR l (i + 1) := by
  apply List.ext_getElem?
  intro j
  have hr : ∀ k, k < l.length → (ready l)[k]? = some (decide (0 < l.getD k 0)) := fun k hk => by
    simp [ready, List.getD_eq_getElem?_getD, hk]
  unfold fillR
  have ht : ((ready l).take i).length = i := by simp [ready_length]; omega
  have ht' : ((ready l).take (i + 1)).length = i + 1 := by simp [ready_length]; omega
  by_cases e : i = j
  · subst e
    rw [List.getElem?_set_self (by simp [ready_length]; omega), List.getElem?_append_left (by omega), List.getElem?_take, if_pos (by omega), hr i h, List.getD_eq_getElem?_getD, List.getElem?_eq_getElem h]; rfl
  · rw [List.getElem?_set_ne e]
    by_cases c : j < i
    · rw [List.getElem?_append_left (by omega), List.getElem?_append_left (by omega), List.getElem?_take, List.getElem?_take, if_pos c, if_pos (by omega)]
    · rw [List.getElem?_append_right (by omega), List.getElem?_append_right (by omega), ht, ht']
      by_cases c2 : j < l.length
      · simp [show j - i < l.length - i by omega, show j - (i + 1) < l.length - (i + 1) by omega]
      · simp [show ¬ j - i < l.length - i by omega, show ¬ j - (i + 1) < l.length - (i + 1) by omega]
theorem fillR_done (l : List Int) : fillR l l.length = ready l := by simp [fillR, ← ready_length]
theorem made_false (l : List Int) : (madeCells (Value.bool false).cells (l.length * 1)).toList = (fillR l 0).map .bool := by
  have e : fillR l 0 = List.replicate l.length false := by simp [fillR]
  rw [e, List.map_replicate, Nat.mul_one]
  exact made1 (.bool false) l.length
theorem ready_set (l : List Int) (k : Nat) (x : Int) : ready (l.set k x) = (ready l).set k (decide (0 < x)) := by simp [ready, List.map_set]
set_option maxHeartbeats 2000000 in
theorem deal_err (last : Int) (v : Value) (need : List Int) (slice budget : Int) (w : World) (hs : Sl w v need.length (need.map (.int .i64))) (hok : ∀ n ∈ need, okI64 n) (hl : need.length * 8 ≤ 140737488351232)
    (h : 100 < need.length ∨ 10000 < budget ∨ need.any oddNeed = true ∨ slice < 1 ∨ budget < 0) :
    Calls Try.prog 32 #[.int .i64 last, v, .int .i64 slice, .int .i64 budget] w (GivesDeal w (dealF last need slice budget)) := by
  have hs' := hs
  obtain ⟨bs, cap, rfl, hcap, hmax, hrd⟩ := hs
  clear hrd
  by_cases c1 : 100 < need.length
  · have e : dealF last need slice budget = ([], 0, 2) := by unfold dealF; rw [if_pos (.inl c1)]
    rw [e]
    clear hok
    go_enter Try.func32, Try.ntmps32
    go_wp2
    go_ret3
    exact ⟨_, rfl, World.ownsRow_nil _ _ _ _, Below.refl _ _⟩
  · by_cases c2 : 10000 < budget
    · have e : dealF last need slice budget = ([], 0, 2) := by unfold dealF; rw [if_pos (.inr c2)]
      rw [e]
      clear hok
      go_enter Try.func32, Try.ntmps32
      go_wp2
      go_ret3
      exact ⟨_, rfl, World.ownsRow_nil _ _ _ _, Below.refl _ _⟩
    · have e : dealF last need slice budget = ([], 0, 1) := by
        unfold dealF; rw [if_neg (by omega), if_pos]
        rcases h with h | h | h
        · omega
        · omega
        · exact h
      rw [e]
      have c1' : decide ((100 : Int) < (need.length : Int)) = false := by simp; omega
      go_enter Try.func32, Try.ntmps32
      go_wp2_with fail
      refine (anyOdd_calls _ need _ hs' hok hl).mono ?_
      rintro e w' ⟨rfl, rfl⟩
      clear hok
      cases c3 : need.any oddNeed
      · rw [c3] at h
        have h2 : slice < 1 ∨ budget < 0 := by
          rcases h with h | h | h | h | h
          · omega
          · omega
          · cases h
          · exact .inl h
          · exact .inr h
        clear c3 h
        by_cases c4 : slice < 1
        · go_wp2
          go_ret3
          exact ⟨_, rfl, World.ownsRow_nil _ _ _ _, Below.refl _ _⟩
        · have c5 : budget < 0 := by omega
          go_wp2
          go_ret3
          exact ⟨_, rfl, World.ownsRow_nil _ _ _ _, Below.refl _ _⟩
      · clear c3 h
        go_wp2
        go_ret3
        exact ⟨_, rfl, World.ownsRow_nil _ _ _ _, Below.refl _ _⟩
set_option maxRecDepth 100000 in
set_option maxHeartbeats 4000000 in
theorem deal_ok (last : Int) (v : Value) (need : List Int) (slice budget : Int) (w : World) (hlast : okI64 last) (hslice : okI64 slice) (hs : Sl w v need.length (need.map (.int .i64))) (hok : ∀ n ∈ need, okI64 n)
    (h1 : ¬ 100 < need.length) (h2 : ¬ 10000 < budget) (h3 : need.any oddNeed = false) (h4 : ¬ slice < 1) (h5 : ¬ budget < 0) :
    Calls Try.prog 32 #[.int .i64 last, v, .int .i64 slice, .int .i64 budget] w (GivesDeal w (dealF last need slice budget)) := by
  have e : dealF last need slice budget = ((deals slice budget.toNat last need budget).1, (deals slice budget.toNat last need budget).2, 0) := by
    unfold dealF; rw [if_neg (by omega), if_neg (by rw [h3]; simp; omega)]
  rw [e]
  clear e
  have hs' := hs
  obtain ⟨bs, cap, rfl, hcap, hmax, hrd⟩ := hs
  clear hrd
  obtain ⟨hl1, hl2⟩ := hlast
  obtain ⟨hsl1, hsl2⟩ := hslice
  have hneed : ∀ n ∈ need, 0 ≤ n ∧ n ≤ 1073741824 := fun n hn => by
    rw [List.any_eq_false] at h3
    have := h3 n hn
    simp [oddNeed] at this
    omega
  have HNeed := Lib.hid hneed
  clear hneed
  go_enter Try.func32, Try.ntmps32
  go_wp2_with fail
  refine (anyOdd_calls _ need _ hs' hok (by omega)).mono ?_
  rw [h3]
  rintro e w' ⟨rfl, rfl⟩
  clear hok h3
  go_wp2_with fail
  refine (cloneInts_calls _ need _ hs' (by omega)).mono ?_
  rintro e w1 ⟨vL, rfl, hownL, hb1⟩
  clear hs'
  obtain ⟨iB, hiB, hzB0, hzB1, hzB2⟩ := info_parts infoBool
  have hsz1 := hb1.size
  rcases hownL.2 with ⟨rfl, h0⟩ | ⟨gL, capL, cur, rfl, hbL, hgL, hnL, hmL, _⟩
  · have hn0 : need = [] := List.length_eq_zero_iff.1 h0
    subst hn0
    have e : deals slice budget.toNat last [] budget = ([], last) := deals_none _ _ _ _ _ (by rw [turnF_miss (ready []) last (fun j hj => by simp [ready] at hj)]; decide)
    have HE := Lib.hid e
    have ht : turnF [] last = -1 := turnF_miss [] last (fun j hj => by simp at hj)
    have HT := Lib.hid ht
    clear e ht hownL
    go_wp2_with (at_make; go_must (refine wpList_make_full _ rfl _ _ _ rfl w1.heap.size 4 iB _ 1 Try.underlying30 hiB hzB0 hzB1 _ _ _ _ 0 rfl rfl rfl rfl (by omega) (by decide) (Nat.le_refl _) ?_); intro w2 hownR hgR)
    have hsl : Sl w2 (.slice (some ⟨w1.heap.size, 0, none⟩) 0 0) ([] : List Bool).length (([] : List Bool).map .bool) := ⟨_, 0, rfl, Nat.le_refl _, by decide, fun h => by simp at h⟩
    have hb2 : Below w.heap.size w w2 := hb1.grown hgR hsz1 (fun k hk => by cases hk)
    go_loopg [13, 14, 44] 0 (fun g _ _ c wr => wr = w2 ∧ c = .int .i64 0)
    case atStart => exact ⟨rfl, rfl⟩
    case round =>
      obtain ⟨rfl, rfl⟩ := hrel
      clear hownR hgR
      go_wp2_with fail
      go_loopg [0, 3, 15] 0 (fun g c0 c3 c15 w' => w' = wr ∧ c0 = .int .i64 last ∧ c3 = .int .i64 budget ∧ c15 = .slice none 0 0)
      case atStart => exact ⟨rfl, rfl, rfl, rfl⟩
      case round =>
        obtain ⟨rfl, rfl, rfl, rfl⟩ := hrel
        by_cases hpos : 0 < budget
        · go_wp2_with fail
          refine (turn_calls last _ [] _ hl1 hl2 hsl (by decide)).mono ?_
          rw [HT.out]
          rintro e w' ⟨rfl, rfl⟩
          go_wp2
          go_ret3
          refine ⟨.slice none 0 0, ?_, ?_, hb2⟩
          · rw [HE.out]; rfl
          · rw [HE.out]; exact World.ownsRow_nil _ _ _ _
        · go_wp2
          go_ret3
          refine ⟨.slice none 0 0, ?_, ?_, hb2⟩
          · rw [HE.out]; rfl
          · rw [HE.out]; exact World.ownsRow_nil _ _ _ _
  · have hwL := rd_own hownL
    have hgl := (hownL.lt gL rfl).2
    clear hgL
    go_wp2_with (at_make; refine wpList_make_full _ rfl _ _ _ rfl w1.heap.size 4 iB _ 1 Try.underlying30 hiB hzB0 hzB1 _ _ _ _ need.length rfl rfl rfl rfl (by rw [hzB2]; omega) (by unfold maxLen; omega) (Nat.le_refl _) ?_; intro w2 hownR hgR)
    have hwR0 := rd_own hownR
    have hgr : gL < w2.heap.size ∧ w1.heap.size < w2.heap.size := ⟨Nat.lt_of_lt_of_le hgl hgR.size, (hownR.lt _ rfl).2⟩
    have hb2 : Below w.heap.size w w2 := hb1.grown hgR hsz1 (fun k hk => by cases hk)
    have hwL2 := hwL.grown hgR (by simp)
    have hmade : (madeCells (Value.bool false).cells (need.length * 1)).toList = (fillR need 0).map .bool := made_false need
    rw [hmade] at hwR0
    obtain ⟨gR, hgR'⟩ : ∃ gR, gR = w1.heap.size := ⟨_, rfl⟩
    rw [← hgR'] at hwR0 hgr ⊢
    have hRB : w.heap.size ≤ gR := by omega
    have hLR : gL < gR := by omega
    clear hownL hownR hgR hwL hmade hb1 hgl hsz1 hgR'
    go_loopg [13, 14, 44] need.length (fun g _ _ c wr => ∃ i : Nat, i + g = need.length ∧ c = .int .i64 i ∧ Below w.heap.size w wr ∧ gR < wr.heap.size ∧ Wr wr gL 0 (need.map (.int .i64)) ∧ Wr wr gR 0 ((fillR need i).map .bool))
    case atStart => exact ⟨0, by omega, rfl, hb2, hgr.2, hwL2, hwR0⟩
    case round =>
      obtain ⟨i, hi, rfl, hb3, hg3, hwL3, hwR3⟩ := hrel
      clear hb2 hgr hwL2 hwR0
      by_cases hlt : i < need.length
      · have hcL := hwL3.rd.at i (by simpa using hlt)
        have hcR := hwR3.at i (by rw [List.length_map, fillR_length _ _ (by omega)]; exact hlt)
        have hset := hwR3.set i (by rw [List.length_map, fillR_length _ _ (by omega)]; exact hlt) (.bool (decide (0 < need[i])))
        have hfar := hwL3.far (a := ⟨gR, 0 + i, none⟩) (by simp; omega) (.bool (decide (0 < need[i])))
        rw [Nat.zero_add] at hcL hcR hset hfar
        rw [List.getElem_map] at hcL
        have HS := Lib.hid hset
        have HFr := Lib.hid hfar
        have hb4 := hb3.setCell (p := ⟨gR, i, none⟩) hRB (.bool (decide (0 < need[i])))
        have HB4 := Lib.hid hb4
        obtain ⟨hcR1, hcR2⟩ := hcR
        clear hset hfar hwL3 hwR3 hb4 hb3
        go_wp2_with fail
        go_roundg (gk - 1)
        case measure => omega
        case rel =>
          refine ⟨i + 1, by omega, by go_num, HB4.out, by simpa [World.setCell] using hg3, HFr.out, ?_⟩
          have h := HS.out
          rw [show (Value.bool (decide (0 < need[i]))) = (fun b => Value.bool b) (decide (0 < need[i])) from rfl, ← List.map_set, fillR_set need i hlt] at h
          exact h
      · obtain rfl : i = need.length := by omega
        rw [fillR_done] at hwR3
        obtain ⟨iS, hiS, hzS0, hzS1, hzS2⟩ := info_parts infoShare
        obtain ⟨OUT, hOUT⟩ : ∃ OUT, OUT = (deals slice budget.toNat last need budget).1 := ⟨_, rfl⟩
        obtain ⟨LAST, hLAST⟩ : ∃ LAST, LAST = (deals slice budget.toNat last need budget).2 := ⟨_, rfl⟩
        have HO := Lib.hid hOUT
        have HL := Lib.hid hLAST
        have H0 := Lib.hid (show (deals slice budget.toNat last need budget).1 = OUT ∧ (deals slice budget.toNat last need budget).2 = LAST from ⟨hOUT.symm, hLAST.symm⟩)
        have hn0 : ∀ n ∈ need, 0 ≤ n ∧ n ≤ 1073741824 := HNeed.out
        clear hOUT hLAST
        go_wp2_with fail
        go_loopg [0, 3, 15] budget.toNat (fun g c0 c3 c15 w' => ∃ (la b : Int) (l : List Int) (pre : List (Nat × Int)), c0 = .int .i64 la ∧ c3 = .int .i64 b ∧ 0 ≤ b ∧ b ≤ g ∧ (g : Int) ≤ 10000 ∧ okI64 la ∧ l.length = need.length ∧ Hid (∀ n ∈ l, 0 ≤ n ∧ n ≤ 1073741824) ∧
          w'.ownsRow (gR + 1) 68 2 c15 pre.length (pre.flatMap shareC) ∧ pre.length + g ≤ 10000 ∧ Hid (pre ++ (deals slice g la l b).1 = OUT ∧ (deals slice g la l b).2 = LAST) ∧
          Below w.heap.size w w' ∧ gR < w'.heap.size ∧ Wr w' gL 0 (l.map (.int .i64)) ∧ Wr w' gR 0 ((ready l).map .bool))
        case atStart => exact ⟨last, budget, need, [], rfl, rfl, h5, by omega, by omega, ⟨hl1, hl2⟩, rfl, hn0, World.ownsRow_nil _ _ _ _, by simp; omega, H0, hb3, hg3, hwL3, hwR3⟩
        case round =>
          obtain ⟨la, b, l, pre, rfl, rfl, hb0, hbg, hg1, hla, hll, hnn, hown, hpl, HD, hb4, hg4, hwL4, hwR4⟩ := hrel
          clear hb3 hg3 hwL3 hwR3
          by_cases hpos : 0 < b
          · obtain ⟨f, rfl⟩ : ∃ f, gk = f + 1 := ⟨gk - 1, by omega⟩
            have hsl : Sl wr (.slice (some ⟨gR, 0, none⟩) (ready l).length (ready l).length) (ready l).length ((ready l).map .bool) := ⟨_, _, rfl, Nat.le_refl _, by rw [ready_length, hll]; unfold maxLen; omega, fun _ => ⟨gR, 0, rfl, hwR4.rd⟩⟩
            have HT := Lib.hid (turn_calls la _ (ready l) wr hla.1 hla.2 hsl (by rw [ready_length, hll]; omega))
            rw [show (ready l).length = need.length by rw [ready_length, hll]] at HT
            clear hsl
            go_wp2_with fail
            refine HT.out.mono ?_
            rintro e w' ⟨rfl, rfl⟩
            by_cases hneg : turnF (ready l) la < 0
            · have h := HD.out
              rw [deals_none _ _ _ _ _ hneg] at h
              have H := Lib.hid h
              clear h HT hwL4 hwR4
              go_wp2
              go_ret3
              rw [List.append_nil] at H
              refine ⟨u15, ?_, ?_, hb4⟩
              · rw [← HL.out, ← H.out.2]; rfl
              · show wr.ownsRow w.heap.size 68 2 u15 (deals slice budget.toNat last need budget).1.length ((deals slice budget.toNat last need budget).1.flatMap shareC)
                rw [← HO.out, ← H.out.1]
                exact own_weaken hown (by omega)
            · obtain ⟨hk, hpk, hke⟩ := turn_hit l la hneg
              obtain ⟨k, hkk⟩ : ∃ k, k = (turnF (ready l) la).toNat := ⟨_, rfl⟩
              rw [← hkk] at hk hpk hke
              rw [hke]
              have h := HD.out
              rw [deals_step _ _ k _ _ _ hpos hke] at h
              have hlk : l.getD k 0 = l[k] := by rw [List.getD_eq_getElem?_getD, List.getElem?_eq_getElem hk]; rfl
              rw [hlk] at h hpk
              have H := Lib.hid h
              have hcL := hwL4.at k (by simpa using hk)
              have hcR := hwR4.at k (by simpa [ready_length] using hk)
              rw [Nat.zero_add] at hcL hcR
              rw [List.getElem_map] at hcL
              obtain ⟨hcL1, hcL2⟩ := hcL
              obtain ⟨hcR1, hcR2⟩ := hcR
              have hb1073 := (hnn.out l[k] (List.getElem_mem hk)).2
              have hne : ¬ gL = gR := by omega
              have hkn : k < need.length := by omega
              clear h HT hlk HD hneg hke hkk
              go_upto_region 16 with (fail)
              go_cut [17] (fun s17 w'' => w'' = wr ∧ s17 = .int .i64 (min (min l[k] slice) b))
              case first =>
                go_wp2
                all_goals
                  go_meet
                  case rel => exact ⟨rfl, by congr 1; omega⟩
              case rest =>
                obtain ⟨rfl, rfl⟩ := hcut
                have hn : min (min l[k] slice) b ≤ l[k] ∧ min (min l[k] slice) b ≤ b ∧ min (min l[k] slice) b ≤ slice ∧ 1 ≤ min (min l[k] slice) b := by omega
                obtain ⟨hn1, hn2, hn3, hn4⟩ := hn
                have HN := Lib.hid H.out
                generalize min (min l[k] slice) b = n at *
                have hw1 := own_far (own_far hown (a := ⟨gL, k, none⟩) (by simp; omega) (.int .i64 (l[k] - n))) (a := ⟨gR, k, none⟩) (by simp) (.bool (decide (n < l[k])))
                have hw2 := (hwL4.set k (by simpa using hk) (.int .i64 (l[k] - n))).far (a := ⟨gR, k, none⟩) (by simp; omega) (.bool (decide (n < l[k])))
                have hw3 := (hwR4.far (a := ⟨gL, k, none⟩) (by simp; omega) (.int .i64 (l[k] - n))).set k (by simpa [ready_length] using hk) (.bool (decide (n < l[k])))
                have hw4 := (hb4.setCell (p := ⟨gL, k, none⟩) hbL (.int .i64 (l[k] - n))).setCell (p := ⟨gR, k, none⟩) hRB (.bool (decide (n < l[k])))
                rw [Nat.zero_add] at hw2 hw3
                have W1 := Lib.hid hw1
                have W2 := Lib.hid hw2
                have W3 := Lib.hid hw3
                have W4 := Lib.hid hw4
                clear hw1 hw2 hw3 hw4 hown hwL4 hwR4 hb4
                go_wp2_with (at_builtin; go_must (refine wpList_append1 rfl _ _ _ rfl 2 16 Try.underlying64 hiS hzS0 hzS1 hzS2 rfl (by decide) rfl (W1.out.alloc _) rfl (blk_new _ _ _ (by rw [size_set, size_set])) (by rfl) (by simp [Value.oneCell']) (by omega) (by omega) (by simp [World.setCell]; omega) ?_); intro v' w5 hown5 hgrow5)
                have hg5 : (((wc.setCell ⟨gL, k, none⟩ (.int .i64 (l[k] - n))).setCell ⟨gR, k, none⟩ (.bool (decide (n < l[k])))).alloc (Obj.cells #[Value.int IntKind.i64 k, Value.int IntKind.i64 n] 68)).grownBy w5 u15.ownBlock := hgrow5
                have hown5' : w5.ownsRow (gR + 1) 68 2 v' (pre.length + 1) (pre.flatMap shareC ++ [Value.int IntKind.i64 k, Value.int IntKind.i64 n]) := hown5
                clear hgrow5 hown5
                have hszW : ((wc.setCell ⟨gL, k, none⟩ (.int .i64 (l[k] - n))).setCell ⟨gR, k, none⟩ (.bool (decide (n < l[k])))).heap.size = wc.heap.size := by rw [size_set, size_set]
                go_roundg f
                case measure => omega
                case rel =>
                  refine ⟨k, b - n, l.set k (l[k] - n), pre ++ [(k, n)], rfl, rfl, by omega, by omega, by omega, ⟨by omega, by omega⟩, by rw [List.length_set]; exact hll, ?_, ?_, by simp; omega, ?_, ?_, ?_, ?_, ?_⟩
                  · intro x hx
                    rcases List.mem_or_eq_of_mem_set hx with hx | rfl
                    · exact hnn.out x hx
                    · have := hnn.out l[k] (List.getElem_mem hk); omega
                  · rw [List.length_append, List.flatMap_append]
                    exact hown5'
                  · have h := HN.out
                    refine ⟨?_, h.2⟩
                    rw [List.append_assoc]
                    exact h.1
                  · exact (W4.out.alloc (by rw [hszW]; omega) _).grown hg5 (by simp [hszW]; omega) (fun q hq => by have := (W1.out.lt q hq).1; omega)
                  · have := hg5.size; simp [hszW] at this; omega
                  · rw [List.map_set]
                    exact (W2.out.gr ((Below.refl _ _).alloc (Nat.le_refl _) _)).append (W1.out.alloc _) hg5 (by omega)
                  · rw [ready_set, List.map_set, show decide (0 < l[k] - n) = decide (n < l[k]) by congr 1; simp]
                    exact (W3.out.gr ((Below.refl _ _).alloc (Nat.le_refl _) _)).append (W1.out.alloc _) hg5 (by omega)
          · have h := HD.out
            rw [deals_stop _ _ _ _ _ (by omega), List.append_nil] at h
            have H := Lib.hid h
            clear h hwL4 hwR4
            go_wp2
            go_ret3
            refine ⟨u15, ?_, ?_, hb4⟩
            · rw [← HL.out, ← H.out.2]; rfl
            · show wr.ownsRow w.heap.size 68 2 u15 (deals slice budget.toNat last need budget).1.length ((deals slice budget.toNat last need budget).1.flatMap shareC)
              rw [← HO.out, ← H.out.1]
              exact own_weaken hown (by omega)
theorem deal_calls (last : Int) (v : Value) (need : List Int) (slice budget : Int) (w : World) (hlast : okI64 last) (hslice : okI64 slice) (hs : Sl w v need.length (need.map (.int .i64))) (hok : ∀ n ∈ need, okI64 n) (hl : need.length * 8 ≤ 140737488351232) :
    Calls Try.prog 32 #[.int .i64 last, v, .int .i64 slice, .int .i64 budget] w (GivesDeal w (dealF last need slice budget)) := by
  by_cases h : 100 < need.length ∨ 10000 < budget ∨ need.any oddNeed = true ∨ slice < 1 ∨ budget < 0
  · exact deal_err last v need slice budget w hs hok hl h
  · exact deal_ok last v need slice budget w hlast hslice hs hok (by omega) (by omega) (by cases e : need.any oddNeed; rfl; exact absurd (.inr (.inr (.inl e))) h) (by omega) (by omega)
end Go.Proofs.Ytbgamboahifnoaa
