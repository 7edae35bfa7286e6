/- slices.Index, slices.Contains of bools. -/
import Derived.Test.YtbgamboahifnoaaDeal
namespace Go.Proofs.Ytbgamboahifnoaa
open Go.RowKit kit mix dealL
/-- an index, or -1 -/
def IsIdx (l : List Bool) (e : Ending) : Prop := ∃ r : Int, e = .returned (.int .i64 r) ∧ decide (0 ≤ r) = l.contains true
set_option maxHeartbeats 1000000 in
/-- slices.Contains(l, true): through slices.Index -/
theorem indexTrue_calls (v : Value) (l : List Bool) (w : World) (hs : Sl w v l.length (l.map .bool)) (hl : l.length ≤ 140737488351232) :
    Calls Try.prog 38 #[v, .bool true] w fun e w' => IsIdx l e ∧ w = w' := by
  obtain ⟨bs, cap, rfl, hcap, hmax, hrd⟩ := hs
  go_enter Try.func38, Try.ntmps38
  go_wp2_with fail
  go_loop [8] (fun c => ∃ i : Nat, i ≤ l.length ∧ c = .int .i64 i ∧ ∀ j, j < i → l.getD j false = false) (fun c => l.length - (intOf c).toNat)
  case atStart => exact ⟨0, by omega, rfl, fun j hj => by omega⟩
  case round =>
    obtain ⟨i, hi, rfl, hbef⟩ := hrel
    have HB := Lib.hid hbef
    clear hbef
    by_cases hlt : i < l.length
    · obtain ⟨b, off, rfl, hr⟩ := hrd (by omega)
      have hcell : w.cell? ⟨b, off + i, none⟩ = some (.bool (l.getD i false)) := getD_cell hr _ hlt
      cases hT : l.getD i false
      · rw [hT] at hcell
        have HT := Lib.hid hT
        clear hT hrd
        go_wp2
        go_round
        case rel => exact ⟨i + 1, by omega, by go_num, fun j hj => if h : j < i then HB.out j h else by obtain rfl : j = i := by omega
                                                                                                        exact HT.out⟩
        case measure => simp [intOf]; omega
      · rw [hT] at hcell
        have hc : l.contains true = true := by
          rw [List.contains_iff_mem, List.mem_iff_getElem]
          exact ⟨i, hlt, by rw [List.getD_eq_getElem?_getD, List.getElem?_eq_getElem hlt] at hT; simpa using hT⟩
        have HC := Lib.hid hc
        clear hT hrd hc
        go_wp2
        go_ret
        exact ⟨⟨i, rfl, by rw [HC.out]; simp⟩, rfl⟩
    · obtain rfl : i = l.length := by omega
      have hc : l.contains true = false := by
        cases e : l.contains true
        · rfl
        · rw [List.contains_iff_mem, List.mem_iff_getElem] at e
          obtain ⟨k, hk, hkt⟩ := e
          have := HB.out k hk
          rw [List.getD_eq_getElem?_getD, List.getElem?_eq_getElem hk] at this
          simp [hkt] at this
      have HC := Lib.hid hc
      clear hrd hc
      go_wp2
      go_ret
      exact ⟨⟨-1, rfl, by rw [HC.out]; decide⟩, rfl⟩
theorem containsTrue_calls (v : Value) (l : List Bool) (w : World) (hs : Sl w v l.length (l.map .bool)) (hl : l.length ≤ 140737488351232) :
    Calls Try.prog 19 #[v, .bool true] w fun e w' => e = .returned (.bool (l.contains true)) ∧ w = w' := by
  go_enter Try.func19, Try.ntmps19
  go_wp2_with fail
  refine (indexTrue_calls v l w hs hl).mono ?_
  rintro e w' ⟨⟨r, rfl, hr⟩, rfl⟩
  have HR := Lib.hid hr
  clear hr
  go_wp2
  go_ret
  exact ⟨by rw [← HR.out]; rfl, rfl⟩
end Go.Proofs.Ytbgamboahifnoaa
