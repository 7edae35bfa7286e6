/- Automata that begin at another state (pushkeep.from): plain. -/
import Derived.Test.YtbiacehgfmgfdaaSmAL
import Derived.Test.YtbiacehgfmgfdaaFam
namespace Go.Proofs.Ytbiacehgfmgfdaa.eng
open Go.RowKit kit mix dfaL smallL
def swp (a k : Nat) : Nat := if k = a then 0 else if k = 0 then a else k
def swI (a : Nat) (x : Int) : Int := if x = a then 0 else if x = 0 then a else x
theorem swp_lt {a k n : Nat} (ha : a < n) (hk : k < n) : swp a k < n := by unfold swp; split <;> (try split) <;> omega
theorem swp_swp (a k : Nat) : swp a (swp a k) = k := by
  unfold swp
  repeat' split
  all_goals omega
theorem swI_nat (a k : Nat) : swI a (k : Int) = (swp a k : Int) := by
  unfold swI swp
  repeat' split
  all_goals omega
theorem swI_neg (a : Nat) {x : Int} (h : x < 0) : swI a x = x := by
  unfold swI
  repeat' split
  all_goals omega
theorem swI_swI (a : Nat) (x : Int) : swI a (swI a x) = x := by
  unfold swI
  repeat' split
  all_goals omega
def fromR (R : List Row) (a : Nat) : List Row := tabA R.length fun k => (R.getD (swp a k) row0).map (swI a)
def fromT (tags : List Int) (a : Nat) : List Int := tabA tags.length fun k => tags.getD (swp a k) 0
theorem fromR_len (R : List Row) (a : Nat) : (fromR R a).length = R.length := tabA_len _ _
theorem fromT_len (tags : List Int) (a : Nat) : (fromT tags a).length = tags.length := tabA_len _ _
theorem tabA_getD {α : Type} {n : Nat} (f : Nat → α) (d : α) {k : Nat} (h : k < n) : (tabA n f).getD k d = f k := by
  rw [List.getD_eq_getElem?_getD, tabA_get f h]; rfl
theorem from_d {R : List Row} {tags : List Int} {a k b : Nat} (hk : k < R.length) (hb : b < 256) : (aut (fromR R a) (fromT tags a)).d k b = swI a ((aut R tags).d (swp a k) b) := by
  show ((fromR R a).getD k row0).toList.getD b 0 = swI a ((R.getD (swp a k) row0).toList.getD b 0)
  unfold fromR
  rw [tabA_getD _ _ hk]
  generalize R.getD (swp a k) row0 = r
  rw [List.getD_eq_getElem?_getD, List.getElem?_eq_getElem (by simpa using hb), List.getD_eq_getElem?_getD, List.getElem?_eq_getElem (by simpa using hb)]
  simp
theorem from_tag {R : List Row} {tags : List Int} {a k : Nat} (hk : k < tags.length) : (aut (fromR R a) (fromT tags a)).tag k = (aut R tags).tag (swp a k) := tabA_getD _ _ hk
theorem swI_st {n a : Nat} {x : Int} (ha : a < n) (h : -1 ≤ x ∧ x < n) : -1 ≤ swI a x ∧ swI a x < n := by
  unfold swI
  repeat' split
  all_goals omega
theorem from_chk {R : List Row} {tags : List Int} {a : Nat} (h : chk R tags = 0) (ha : a < R.length) : chk (fromR R a) (fromT tags a) = 0 := by
  obtain ⟨hA, hl⟩ := chk_ok h
  have en : (aut (fromR R a) (fromT tags a)).n = R.length := fromR_len R a
  refine ok_chk ⟨by rw [en]; exact hA.pos, by rw [en]; exact hA.le, fun i hi b hb => ?_, fun i hi => ?_⟩ (by rw [fromT_len, fromR_len, hl])
  · rw [en] at hi ⊢
    rw [from_d hi hb]
    exact swI_st ha (hA.step _ (swp_lt ha hi) b hb)
  · rw [en] at hi
    rw [from_tag (by omega)]
    exact hA.tags _ (swp_lt ha hi)
/-- a way seen from elsewhere -/
theorem from_go {R : List Row} {tags : List Int} {a : Nat} (h : chk R tags = 0) (ha : a < R.length) : ∀ (s : List UInt8) (q : Int), St (aut R tags) q → go (aut (fromR R a) (fromT tags a)) (swI a q) s = swI a (go (aut R tags) q s)
  | [], _, _ => rfl
  | b :: s, q, hq => by
    have hA := (chk_ok h).1
    have hb : b.toNat < 256 := b.toNat_lt
    have hst := st_dt hA hq hb
    unfold go
    have e : dt (aut (fromR R a) (fromT tags a)) (swI a q) b.toNat = swI a (dt (aut R tags) q b.toNat) := by
      unfold dt
      by_cases c : q < 0
      · rw [if_pos c, swI_neg a c, if_pos c, swI_neg a (by decide)]
      · obtain ⟨k, rfl⟩ : ∃ k : Nat, q = k := ⟨q.toNat, by omega⟩
        have hk : k < R.length := by have := hq.2; have e : (aut R tags).n = R.length := rfl; omega
        rw [swI_nat, if_neg (by omega), if_neg (by omega), Int.toNat_natCast, Int.toNat_natCast, from_d (swp_lt ha hk) hb, swp_swp]
    rw [e]
    exact from_go h ha s _ hst
theorem from_tg {R : List Row} {tags : List Int} {a : Nat} (h : chk R tags = 0) (ha : a < R.length) {q : Int} (hq : St (aut R tags) q) : tg (aut (fromR R a) (fromT tags a)) (swI a q) = tg (aut R tags) q := by
  obtain ⟨hA, hl⟩ := chk_ok h
  unfold tg
  by_cases c : q < 0
  · rw [if_pos c, swI_neg a c, if_pos c]
  · obtain ⟨k, rfl⟩ : ∃ k : Nat, q = k := ⟨q.toNat, by omega⟩
    have hk : k < R.length := by have := hq.2; have e : (aut R tags).n = R.length := rfl; omega
    rw [swI_nat, if_neg (by omega), if_neg (by omega), Int.toNat_natCast, Int.toNat_natCast, from_tag (by have := swp_lt ha hk; omega), swp_swp]
theorem from_tells {R : List Row} {tags : List Int} {a : Nat} (h : chk R tags = 0) (ha : a < R.length) (s : List UInt8) : tagF (fromR R a) (fromT tags a) s = (tg (aut R tags) (go (aut R tags) a s), 0) := by
  have hA := (chk_ok h).1
  have hst : St (aut R tags) (a : Int) := ⟨by omega, by have e : (aut R tags).n = R.length := rfl; omega⟩
  rw [tagF_ok (from_chk h ha)]
  have e0 : (0 : Int) = swI a (a : Int) := by unfold swI; rw [if_pos rfl]
  rw [e0, from_go h ha s _ hst, from_tg h ha (st_go hA s _ hst)]
/-- two states of the smallest one -/
theorem least_law {R : List Row} {tags : List Int} (h : chk R tags = 0) {a b : Nat} (ha : a < (minR R tags).length) (hb : b < (minR R tags).length) :
    ∃ s is, apartF (fromR (minR R tags) a) (fromT (minT R tags) a) (fromR (minR R tags) b) (fromT (minT R tags) b) = (s, is, 0) ∧ is = decide (a ≠ b) := by
  have hm := min_chk h
  have hA := (chk_ok h).1
  have hln := (min_len h).2
  rcases apart_law (from_chk hm ha) (from_chk hm hb) with ⟨e, hl⟩ | ⟨s, e, h1, h2, h3⟩
  · refine ⟨[], false, e, ?_⟩
    have hs : same (minA (aut R tags)) (a : Int) (b : Int) := fun s => by
      have := hl s
      rw [from_tells hm ha, from_tells hm hb, min_aut h] at this
      exact (Prod.mk.inj this).1
    have := min_apart hA (by omega) (by omega) hs
    rw [decide_eq_false (fun q => q this)]
  · refine ⟨s, true, e, ?_⟩
    have : a ≠ b := by rintro rfl; exact h2 rfl
    rw [decide_eq_true this]
theorem none_tells (s : List UInt8) : tagF [row0] [-1] s = (-1, 0) := by
  rw [tagF_ok chk_oneN]
  have hst := st_go (chk_ok chk_oneN).1 s 0 (st_zero (chk_ok chk_oneN).1)
  generalize go (aut [row0] [-1]) 0 s = q at *
  have h2 : q < 1 := hst.2
  unfold tg
  by_cases c : q < 0
  · rw [if_pos c]
  · obtain rfl : q = 0 := by omega
    rfl
theorem some_law {R : List Row} {tags : List Int} (h : chk R tags = 0) {a : Nat} (ha : a < (minR R tags).length) :
    ∃ s is, apartF (fromR (minR R tags) a) (fromT (minT R tags) a) [row0] [-1] = (s, is, 0) ∧ (is = true ∨ a = 0) := by
  have hm := min_chk h
  have hA := (chk_ok h).1
  have hln := (min_len h).2
  rcases apart_law (from_chk hm ha) chk_oneN with ⟨e, hl⟩ | ⟨s, e, _⟩
  · refine ⟨[], false, e, .inr ?_⟩
    refine Classical.byContradiction fun h0 => ?_
    obtain ⟨s, hs⟩ := min_leads hA (k := a) (by omega) h0
    have := hl s
    rw [from_tells hm ha, none_tells, min_aut h] at this
    exact hs (Prod.mk.inj this).1
  · exact ⟨s, true, e, .inl rfl⟩
end Go.Proofs.Ytbiacehgfmgfdaa.eng
