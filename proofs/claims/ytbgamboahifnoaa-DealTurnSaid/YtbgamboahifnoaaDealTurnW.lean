/- The walk of DealTurn. -/
import Derived.Test.YtbgamboahifnoaaSliceB
namespace Go.Proofs.Ytbgamboahifnoaa.dealTurn
open Go.RowKit kit mix dealL
theorem known : turnF [true, false, true] 0 = 2 := by decide
set_option maxHeartbeats 1000000 in
theorem walk (w : World) (last : Int) (wl : (Lit.int .i64 last).wf = true) (v : Value) (l : List Bool) (hs : Sl w v l.length (l.map .bool)) (hl : l.length ≤ 140737488351232) :
    Calls Try.prog 6 #[.int .i64 last, v] w fun e w' => e = .returned (.bool true) ∧ Below w.heap.size w w' := by
  have hw : -9223372036854775808 ≤ last ∧ last ≤ 9223372036854775807 := okI64_of wl
  obtain ⟨hw1, hw2⟩ := hw
  clear wl
  go_enter Try.func6, Try.ntmps6
  go_wp2_with fail
  have k0 := known
  refine (turn_calls 0 _ [true, false, true] _ (by decide) (by decide) (sl_block (heap_alloc_new w _) rfl (by decide)) (by decide)).mono ?_
  rintro e w1 ⟨rfl, hw'⟩
  have hb1 : Below w.heap.size w w1 := by rw [← hw']; exact (Below.refl _ _).alloc (Nat.le_refl _) _
  clear hw'
  have hs1 := hs.gr hb1
  go_wp2_with fail
  clear k0
  refine (turn_calls last v l _ hw1 hw2 hs1 hl).mono ?_
  rintro e w' ⟨rfl, rfl⟩
  rcases turnF_cases l last with ⟨hm, hall⟩ | ⟨i, hi, hp, hbef, he⟩
  · have hc : l.contains true = false := by
      by_cases h0 : l.length = 0
      · rw [List.length_eq_zero_iff] at h0; rw [h0]; rfl
      · exact miss_all l _ (from_lt _ _ (by omega)) hall
    have HC := Lib.hid hc
    rw [hm]
    clear hall hc hm
    go_wp2_with fail
    refine (containsTrue_calls v l _ hs1 hl).mono ?_
    rw [HC.out]
    rintro e w' ⟨rfl, rfl⟩
    go_wp2
    go_ret
    exact ⟨rfl, hb1⟩
  · rw [he]
    obtain ⟨f, hf⟩ : ∃ f, f = fromN l.length last := ⟨_, rfl⟩
    have hfl := from_lt l.length last (by omega)
    rw [← hf] at hp hbef hfl he ⊢
    obtain ⟨n, hn⟩ : ∃ n, n = (f + 1 + i) % l.length := ⟨_, rfl⟩
    have hnl : n < l.length := by rw [hn]; exact Nat.mod_lt _ (by omega)
    rw [← hn] at he ⊢
    obtain ⟨bs, cap, rfl, hcap, hmax, hrd⟩ := hs1
    obtain ⟨b, off, rfl, hr⟩ := hrd (by omega)
    have hcn : w1.cell? ⟨b, off + n, none⟩ = some (.bool true) := by
      rw [getD_cell hr n hnl]; unfold turnAt at hp; rw [← hn] at hp; rw [hp]
    clear hrd hs
    have HN := Lib.hid hn
    have hfA : last < 0 ∨ (l.length : Int) ≤ last → ((l.length : Int) - 1) = f := fun h => by rw [hf]; unfold fromN; rw [if_pos h]; omega
    have hfB : ¬ (last < 0 ∨ (l.length : Int) ≤ last) → last = (f : Int) := fun h => by rw [hf]; unfold fromN; rw [if_neg h]; omega
    have HA := Lib.hid hfA
    have HB2 := Lib.hid hfB
    have HP := Lib.hid hp
    have HB := Lib.hid hbef
    clear hn hf hp hbef he hfA hfB
    have hlen0 : (l.length : Int) ≠ 0 := by omega
    go_wp2_with fail
    all_goals
      go_loopg [7] i (fun g c wr => wr = w1 ∧ ∃ j : Nat, j + g = i ∧ c = .int .i64 (((f + 1 + j) % l.length : Nat) : Int))
      case atStart =>
        refine ⟨rfl, 0, by omega, ?_⟩
        first
          | (have e := HA.out (by omega); rw [show f + 1 + 0 = l.length by omega, Nat.mod_self]; rfl)
          | (have e := HB2.out (by omega); rw [e]; rfl)
      case round =>
        obtain ⟨rfl, j, hj, rfl⟩ := hrel
        by_cases hji : j = i
        · have hk : (f + 1 + j) % l.length = n := by rw [hji, HN.out]
          rw [hk]
          have hnn : ((n : Int) != (n : Int)) = false := by simp
          clear hk hji hj
          go_wp2_with fail
          go_loopg [8, 67] l.length (fun g a c w' => w' = wr ∧ ∃ m q : Nat, m + g = l.length ∧ c = .int .i64 m ∧ a = .int .i64 q ∧ q < l.length ∧ dist l.length q n ≤ g)
          case atStart => exact ⟨rfl, 0, n, by omega, rfl, rfl, hnl, by rw [dist_self _ _ hnl]; omega⟩
          case round =>
            obtain ⟨rfl, m, q, hm, rfl, rfl, hq, hd⟩ := hrel
            have hd0 := (dist_pos l.length q n hq hnl).1
            have hln : l.getD n false = true := by
              have h := HP.out
              unfold turnAt at h
              rw [← HN.out] at h
              exact h
            have HT := Lib.hid (turn_nearer l q n hq hnl hln)
            clear hln
            go_wp2_with fail
            refine (turn_calls (q : Int) _ l _ (by omega) (by omega) ⟨_, cap, rfl, hcap, hmax, fun _ => ⟨b, off, rfl, hr⟩⟩ hl).mono ?_
            rintro e w' ⟨rfl, rfl⟩
            rcases HT.out with h | ⟨q2, hq2, h, hd2⟩
            · rw [h]
              clear h
              go_wp2
              go_ret
              exact ⟨rfl, hb1⟩
            · rw [h]
              clear h
              by_cases hqn : q2 = n
              · subst hqn
                go_wp2
                go_ret
                exact ⟨rfl, hb1⟩
              · have hne : ((q2 : Int) == (n : Int)) = false := by simpa using fun h => hqn (by omega)
                go_wp2_with fail
                go_roundg (gk - 1)
                case measure => omega
                case rel => exact ⟨rfl, m + 1, q2, by omega, by go_num, rfl, hq2, by omega⟩
        · have hkl := Nat.mod_lt (f + 1 + j) (show 0 < l.length by omega)
          have hcell : wr.cell? ⟨b, off + (f + 1 + j) % l.length, none⟩ = some (.bool false) := by
            rw [getD_cell hr _ hkl]
            have h := HB.out j (by omega)
            unfold turnAt at h
            rw [h]
          have hne : ((((f + 1 + j) % l.length : Nat) : Int) != (n : Int)) = true := by
            rw [bne_iff_ne]; intro h
            exact hji (mod_inj l.length (f + 1) j i (by omega) hi (by rw [← HN.out]; omega))
          have hnext : ((((f + 1 + j) % l.length : Nat) : Int) + 1) % (l.length : Int) = (((f + 1 + (j + 1)) % l.length : Nat) : Int) := by
            rw [show f + 1 + (j + 1) = f + 1 + j + 1 by omega, ← Nat.mod_add_mod (f + 1 + j) l.length 1]
            rfl
          have HX := Lib.hid hnext
          clear hnext
          generalize (f + 1 + j) % l.length = k at *
          go_wp2_with fail
          go_roundg (gk - 1)
          case measure => omega
          case rel => exact ⟨rfl, j + 1, by omega, by rw [HX.out]⟩
end Go.Proofs.Ytbgamboahifnoaa.dealTurn
