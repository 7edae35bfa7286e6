/- slices.Clone of a list of ints; slices.ContainsFunc as Deal asks it. -/
import Derived.Test.YtbgamboahifnoaaOpen
import Derived.Test.YtbgamboahifnoaaMix
namespace Go.Proofs.Ytbgamboahifnoaa
open Go.RowKit kit mix
theorem infoInt : (Try.prog.info? 3).map (fun i => (i.zero, i.size, i.bytes)) = some (some (.int .i64 0), 1, 8) := by kernel_rfl
/-- a row of the call's own is handed back -/
def GivesOwn (w : World) (e : TypeId) (size n : Nat) (xs : List Value) (en : Ending) (w' : World) : Prop := ∃ v', en = .returned v' ∧ w'.ownsRow w.heap.size e size v' n xs ∧ Below w.heap.size w w'
theorem int_one (l : List Int) : ∀ u ∈ l.map (Value.int .i64), u.oneCell' = true := fun u hu => by
  obtain ⟨n, _, rfl⟩ := List.mem_map.1 hu; rfl
set_option maxHeartbeats 1000000 in
theorem cloneInts_calls (v : Value) (l : List Int) (w : World) (hs : Sl w v l.length (l.map (.int .i64))) (hl : l.length * 8 ≤ 140737488351232) :
    Calls Try.prog 41 #[v] w (GivesOwn w 3 1 l.length (l.map (.int .i64))) := by
  obtain ⟨bs, cap, rfl, hcap, hmax, hrd⟩ := hs
  obtain ⟨i0, hi, hz0, hz1, hz2⟩ := info_parts infoInt
  have heq : ∀ (w : World) (a : Option Addr) (n c : Nat), (binOp .eql 41 (.slice a n c) (.slice none 0 0)).run Try.prog w = .ok (.bool a.isNone) w := fun w a n c => Lib.run_eql_slice_nil w 41 3 a n c 0 0 Try.underlying41
  cases bs with
  | none =>
    have h0 : l = [] := by
      cases l with
      | nil => rfl
      | cons x l => obtain ⟨b, off, h, _⟩ := hrd (by simp); cases h
    subst h0
    go_enter Try.func41, Try.ntmps41
    go_wp2
    go_ret
    exact ⟨_, rfl, World.ownsRow_nil _ _ _ _, Below.refl _ _⟩
  | some a =>
    have hnews : ∀ (w' : World), Below w.heap.size w w' → ∀ j u, (l.map (Value.int .i64))[j]? = some u → w'.cell? (a.add j) = some u := fun w' hb j u hj => by
      have hjl : j < l.length := by simpa using (List.getElem?_eq_some_iff.1 hj).1
      obtain ⟨b, off, h, hr⟩ := hrd (by omega)
      simp only [Option.some.injEq] at h
      subst h
      rw [addr_add]
      exact (hr.gr hb) j u hj
    have HN := Lib.hid hnews
    clear hnews hrd
    go_enter Try.func41, Try.ntmps41
    go_wp2_with (at_builtin; refine wpList_append_own _ rfl _ _ _ rfl w.heap.size _ i0 _ 1 8 Try.underlying41 hi hz0 hz1 hz2 rfl (by decide) _ 0 [] rfl (World.ownsRow_made w #[] 0 (Nat.le_refl _) (by decide) rfl) a l.length cap (l.map (.int .i64)) rfl (by simp) (HN.out _ ((Below.refl _ _).alloc (Nat.le_refl _) _)) (int_one l) (by unfold maxLen; omega) (by omega) (by simp) ?_; intro v' w1 hown hgrow hnil)
    go_ret
    refine ⟨v', rfl, by simpa using hown, ?_⟩
    exact Below.grown ((Below.refl _ _).alloc (Nat.le_refl _) _) hgrow (by simp) (fun k hk => Nat.le_of_eq (Option.some.inj hk))
/-- Deal's own question: is it out of bounds? -/
def oddNeed (n : Int) : Bool := decide (n < 0) || decide (1073741824 < n)
theorem dealOdd_calls (n : Int) (w : World) (h : okI64 n) :
    Calls Try.prog 40 #[.int .i64 n] w fun e w' => e = .returned (.bool (oddNeed n)) ∧ w = w' := by
  obtain ⟨h1, h2⟩ := h
  by_cases c1 : n < 0
  · have e : oddNeed n = true := by simp [oddNeed, c1]
    rw [e]
    go_enter Try.func40, Try.ntmps40
    go_wp2
    go_ret
    exact ⟨rfl, rfl⟩
  · by_cases c2 : 1073741824 < n
    · have e : oddNeed n = true := by simp [oddNeed, c2]
      rw [e]
      go_enter Try.func40, Try.ntmps40
      go_wp2
      go_ret
      exact ⟨rfl, rfl⟩
    · have e : oddNeed n = false := by simp [oddNeed]; omega
      rw [e]
      go_enter Try.func40, Try.ntmps40
      go_wp2
      go_ret
      exact ⟨rfl, rfl⟩
theorem int_cell {w : World} {b off : Nat} {l : List Int} (h : Rd w b off (l.map (.int .i64))) (k : Nat) (hk : k < l.length) : w.cell? ⟨b, off + k, none⟩ = some (.int .i64 l[k]) := by
  have := h.at k (by simpa using hk)
  rw [this]; simp
def IsAny (l : List Int) (p : Int → Bool) (e : Ending) : Prop := ∃ r : Int, e = .returned (.int .i64 r) ∧ decide (0 ≤ r) = l.any p
set_option maxHeartbeats 1000000 in
theorem indexOdd_calls (v : Value) (l : List Int) (w : World) (hs : Sl w v l.length (l.map (.int .i64))) (hok : ∀ n ∈ l, okI64 n) (hl : l.length * 8 ≤ 140737488351232) :
    Calls Try.prog 43 #[v, .func (.func 40) #[] #[]] w fun e w' => IsAny l oddNeed e ∧ w = w' := by
  obtain ⟨bs, cap, rfl, hcap, hmax, hrd⟩ := hs
  go_enter Try.func43, Try.ntmps43
  go_wp2_with fail
  go_loopg [8] l.length (fun g c wr => wr = w ∧ ∃ i : Nat, i + g = l.length ∧ c = .int .i64 i ∧ ∀ j (hj : j < l.length), j < i → oddNeed l[j] = false)
  case atStart => exact ⟨rfl, 0, by omega, rfl, fun j hj h => by omega⟩
  case round =>
    obtain ⟨rfl, i, hi, rfl, hbef⟩ := hrel
    have HB := Lib.hid hbef
    clear hbef
    by_cases hlt : i < l.length
    · obtain ⟨b, off, rfl, hr⟩ := hrd (by omega)
      have hcell := int_cell hr i hlt
      have hokx := hok l[i] (List.getElem_mem hlt)
      have HT := Lib.hid (rfl : oddNeed l[i] = oddNeed l[i])
      clear hrd
      go_wp2_with (go_at_call 40; refine (dealOdd_calls _ _ hokx).mono ?_; rintro e w' ⟨rfl, rfl⟩)
      · have hT : oddNeed l[i] = true := by assumption
        go_ret
        exact ⟨⟨i, rfl, by rw [List.any_eq_true.2 ⟨l[i], List.getElem_mem hlt, hT⟩]; simp⟩, rfl⟩
      · have hT : oddNeed l[i] = false := by assumption
        go_roundg (gk - 1)
        case measure => omega
        case rel => exact ⟨rfl, i + 1, by omega, by go_num, fun j hj h => if h1 : j < i then HB.out j hj h1 else (by obtain rfl : j = i := (by omega); exact hT)⟩
    · obtain rfl : i = l.length := by omega
      have hn : l.any oddNeed = false := by
        rw [List.any_eq_false]
        intro x hx
        obtain ⟨k, hk, rfl⟩ := List.mem_iff_getElem.1 hx
        simp [HB.out k hk hk]
      have HNn := Lib.hid hn
      clear hrd hn
      go_wp2
      go_ret
      exact ⟨⟨-1, rfl, by rw [HNn.out]; decide⟩, rfl⟩
theorem anyOdd_calls (v : Value) (l : List Int) (w : World) (hs : Sl w v l.length (l.map (.int .i64))) (hok : ∀ n ∈ l, okI64 n) (hl : l.length * 8 ≤ 140737488351232) :
    Calls Try.prog 39 #[v, .func (.func 40) #[] #[]] w fun e w' => e = .returned (.bool (l.any oddNeed)) ∧ w = w' := by
  go_enter Try.func39, Try.ntmps39
  go_wp2_with fail
  refine (indexOdd_calls v l w hs hok hl).mono ?_
  rintro e w' ⟨⟨r, rfl, hr⟩, rfl⟩
  have HR := Lib.hid hr
  clear hr
  go_wp2
  go_ret
  exact ⟨by rw [← HR.out]; rfl, rfl⟩
end Go.Proofs.Ytbgamboahifnoaa
