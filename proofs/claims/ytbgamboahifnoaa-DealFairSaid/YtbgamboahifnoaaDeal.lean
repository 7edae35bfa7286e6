/- What deal.Turn computes. -/
import Derived.Test.YtbgamboahifnoaaOpen
import Derived.Test.YtbgamboahifnoaaDealL
import Derived.Test.YtbgamboahifnoaaMix
namespace Go.Proofs.Ytbgamboahifnoaa
open Go.RowKit kit mix dealL
theorem getD_cell {w : World} {b off : Nat} {l : List Bool} (h : Rd w b off (l.map .bool)) (k : Nat) (hk : k < l.length) : w.cell? ⟨b, off + k, none⟩ = some (.bool (l.getD k false)) := by
  have := h.at k (by simpa using hk)
  rw [this, List.getD_eq_getElem?_getD, List.getElem?_eq_getElem hk]; simp
set_option maxHeartbeats 1000000 in
theorem turn_calls (last : Int) (v : Value) (l : List Bool) (w : World) (h1 : -9223372036854775808 ≤ last) (h2 : last ≤ 9223372036854775807) (hs : Sl w v l.length (l.map .bool)) (hl : l.length ≤ 140737488351232) :
    Calls Try.prog 18 #[.int .i64 last, v] w fun e w' => e = .returned (.int .i64 (turnF l last)) ∧ w = w' := by
  obtain ⟨bs, cap, rfl, hcap, hmax, hrd⟩ := hs
  have HF := fun i a b c => Lib.hid (turnF_hit l last i a b c)
  have HM := fun a => Lib.hid (turnF_miss l last a)
  by_cases h0 : l.length = 0
  · have e : turnF l last = -1 := turnF_miss l last fun j hj => by omega
    have HE := Lib.hid e
    clear e HF HM
    rw [h0]
    go_enter Try.func18, Try.ntmps18
    by_cases hlast : last < 0
    all_goals
      go_wp2_with fail
      all_goals
        go_loop [6, 7, 20] (fun _ _ c => c = .int .i64 0) (fun _ _ _ => 0)
        case atStart => rfl
        case round =>
          subst hrel
          go_wp2
          go_ret
          exact ⟨by rw [HE.out]; rfl, rfl⟩
  · obtain ⟨b, off, rfl, hr⟩ := hrd (by omega)
    clear hrd
    have hfl := from_lt l.length last (by omega)
    obtain ⟨f, hf⟩ : ∃ f, f = fromN l.length last := ⟨_, rfl⟩
    rw [← hf] at hfl HF HM
    by_cases hin : last < 0 ∨ (l.length : Int) ≤ last
    · have e : ((l.length : Int) - 1) = (f : Int) := by
        rw [hf]; unfold fromN; rw [if_pos hin]; omega
      have HE := Lib.hid e
      clear hf e
      go_enter Try.func18, Try.ntmps18
      by_cases hlast : last < 0
      all_goals
        go_wp2_with fail
        rw [HE.out]
        go_loop [20] (fun c => ∃ i : Nat, i ≤ l.length ∧ c = .int .i64 i ∧ ∀ j, j < i → turnAt l f j = false) (fun c => l.length - (intOf c).toNat)
        case atStart => exact ⟨0, by omega, rfl, fun j hj => by omega⟩
        case round =>
          obtain ⟨i, hi, rfl, hbef⟩ := hrel
          have HB := Lib.hid hbef
          clear hbef
          by_cases hlt : i < l.length
          · have hm := Nat.mod_lt (f + 1 + i) (show 0 < l.length by omega)
            have hcell : w.cell? ⟨b, off + (f + 1 + i) % l.length, none⟩ = some (.bool (turnAt l f i)) := getD_cell hr _ hm
            have hm1 := Int.emod_nonneg ((f : Int) + 1 + i) (show (l.length : Int) ≠ 0 by omega)
            have hm2 := Int.emod_lt_of_pos ((f : Int) + 1 + i) (show 0 < (l.length : Int) by omega)
            cases hT : turnAt l f i
            · rw [hT] at hcell
              have HT := Lib.hid hT
              clear hT
              go_wp2
              go_round
              case rel => exact ⟨i + 1, by omega, by go_num, fun j hj => if h : j < i then HB.out j h else by obtain rfl : j = i := by omega
                                                                                                              exact HT.out⟩
              case measure => simp [intOf]; omega
            · rw [hT] at hcell
              have HT := Lib.hid hT
              clear hT
              go_wp2
              go_ret
              exact ⟨by rw [(HF i hlt HT.out HB.out).out]; rfl, rfl⟩
          · obtain rfl : i = l.length := by omega
            go_wp2
            go_ret
            exact ⟨by rw [(HM HB.out).out]; rfl, rfl⟩
    · have e : last = (f : Int) := by
        rw [hf]; unfold fromN; rw [if_neg hin]; omega
      clear hf
      subst e
      have hlast : ¬ (f : Int) < 0 := by omega
      have hge : ¬ (l.length : Int) ≤ f := by omega
      go_enter Try.func18, Try.ntmps18
      go_wp2_with fail
      go_loop [20] (fun c => ∃ i : Nat, i ≤ l.length ∧ c = .int .i64 i ∧ ∀ j, j < i → turnAt l f j = false) (fun c => l.length - (intOf c).toNat)
      case atStart => exact ⟨0, by omega, rfl, fun j hj => by omega⟩
      case round =>
        obtain ⟨i, hi, rfl, hbef⟩ := hrel
        have HB := Lib.hid hbef
        clear hbef
        by_cases hlt : i < l.length
        · have hm := Nat.mod_lt (f + 1 + i) (show 0 < l.length by omega)
          have hcell : w.cell? ⟨b, off + (f + 1 + i) % l.length, none⟩ = some (.bool (turnAt l f i)) := getD_cell hr _ hm
          have hm1 := Int.emod_nonneg ((f : Int) + 1 + i) (show (l.length : Int) ≠ 0 by omega)
          have hm2 := Int.emod_lt_of_pos ((f : Int) + 1 + i) (show 0 < (l.length : Int) by omega)
          cases hT : turnAt l f i
          · rw [hT] at hcell
            have HT := Lib.hid hT
            clear hT
            go_wp2
            go_round
            case rel => exact ⟨i + 1, by omega, by go_num, fun j hj => if h : j < i then HB.out j h else by obtain rfl : j = i := by omega
                                                                                                            exact HT.out⟩
            case measure => simp [intOf]; omega
          · rw [hT] at hcell
            have HT := Lib.hid hT
            clear hT
            go_wp2
            go_ret
            exact ⟨by rw [(HF i hlt HT.out HB.out).out]; rfl, rfl⟩
        · obtain rfl : i = l.length := by omega
          go_wp2
          go_ret
          exact ⟨by rw [(HM HB.out).out]; rfl, rfl⟩
end Go.Proofs.Ytbgamboahifnoaa
