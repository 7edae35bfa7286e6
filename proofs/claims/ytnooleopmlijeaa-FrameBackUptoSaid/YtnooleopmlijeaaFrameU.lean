/- Streams of written frames: no program in sight. -/
import Derived.Test.YtnooleopmlijeaaFrameT
import Derived.Test.YtnooleopmlijeaaFrameE
namespace Go.Proofs.Ytnooleopmlijeaa.frameL
open sumL eng
def txt (g : List Fm) : List UInt8 := g.flatMap wrL
def good (l : List Fm) : List Fm := l.filter fun f => decide (checkFr f = 0)
theorem good_ok {l : List Fm} {f : Fm} (h : f ∈ good l) : checkFr f = 0 := by
  simpa using (List.mem_filter.1 h).2
def endsOf (g : List Fm) : List Int := (List.range g.length).map fun j => ((txt (g.take (j + 1))).length : Int)
theorem endsOf_length (g : List Fm) : (endsOf g).length = g.length := by simp [endsOf]
theorem endsOf_snoc (g : List Fm) (f : Fm) : endsOf (g ++ [f]) = endsOf g ++ [((txt (g ++ [f])).length : Int)] := by
  unfold endsOf
  rw [List.length_append, List.length_singleton, List.range_succ, List.map_append]
  congr 1
  · apply List.map_congr_left
    intro j hj
    rw [List.take_append_of_le_length (by have := List.mem_range.1 hj; omega)]
  · simp only [List.map_cons, List.map_nil]
    rw [List.take_of_length_le (by simp)]
theorem txt_snoc (g : List Fm) (f : Fm) : txt (g ++ [f]) = txt g ++ wrL f := by simp [txt]
theorem len_cons (f : Fm) (r : List Fm) : (txt (f :: r)).length = (wrL f).length + (txt r).length := by
  show (wrL f ++ txt r).length = _
  rw [List.length_append]
theorem len_take (f : Fm) (r : List Fm) (k : Nat) : (txt ((f :: r).take (k + 1))).length = (wrL f).length + (txt (r.take k)).length := by
  rw [List.take_succ_cons, len_cons]
theorem bi_take {s : List UInt8} {n i : Nat} (h : i < n) : bi (s.take n) i = bi s i := by
  simp [bi, List.getD_eq_getElem?_getD, List.getElem?_take, h]
theorem front_short {f : Fm} (h : checkFr f = 0) {n : Nat} (hn : n < (wrL f).length) : frontF ((wrL f).take n) = (zeroFr, 0, 0) := by
  obtain ⟨a0, a1, a2⟩ := wr_bi0 h
  have ho := checkFr_ok h
  have hl := wrL_length f
  have hlen : ((wrL f).take n).length = n := by simp; omega
  unfold frontF
  rw [hlen]
  by_cases c0 : n = 0
  · rw [if_neg (by omega), if_pos (by omega)]
  · rw [bi_take (by omega), if_neg (by omega)]
    by_cases c4 : n < 4
    · rw [if_pos c4]
    · have hn2 : nn ((wrL f).take n) = f.2.2.length := by rw [← a2, nn, nn, bi_take (by omega), bi_take (by omega)]
      rw [if_neg c4, hn2, if_neg (by omega), if_pos (by omega)]
theorem feed_torn : ∀ (k : Nat) (g : List Fm) (n : Nat) (out : List Fm), (∀ f ∈ g, checkFr f = 0) → k ≤ g.length → (txt (g.take k)).length ≤ n → (k = g.length → n ≤ (txt g).length) → (k < g.length → n < (txt (g.take (k + 1))).length) →
    feedL ((txt g).take n) out = ((((txt g).take n).drop (txt (g.take k)).length, 0), out ++ g.take k, 0)
  | 0, [], n, out, _, _, _, h2, _ => by
    have : n = 0 := by have := h2 rfl; simpa [txt] using this
    subst this
    exact feedL_wait (s := []) (by decide) (by decide) |>.trans (by simp [txt])
  | 0, f :: r, n, out, hg, _, _, _, h3 => by
    have h3' : n < (wrL f).length := by simpa [txt] using h3 (by simp)
    have e : (txt (f :: r)).take n = (wrL f).take n := by
      show (wrL f ++ txt r).take n = _
      rw [List.take_append_of_le_length (by omega)]
    have hf := front_short (hg f (by simp)) h3'
    rw [e, feedL_wait (by rw [hf]) (by rw [hf])]
    simp [txt]
  | k + 1, [], n, out, _, hk, _, _, _ => by simp at hk
  | k + 1, f :: r, n, out, hg, hk, h1, h2, h3 => by
    have hl := wrL_length f
    have h1' : (wrL f).length + (txt (r.take k)).length ≤ n := by rw [len_take] at h1; exact h1
    have e : (txt (f :: r)).take n = wrL f ++ (txt r).take (n - (wrL f).length) := by
      show (wrL f ++ txt r).take n = _
      rw [List.take_append, List.take_of_length_le (by omega)]
    have hf := front_whole (hg f (by simp)) ((txt r).take (n - (wrL f).length))
    rw [e, feedL_next (by rw [hf]) (by rw [hf]; simp only; omega), hf]
    simp only [List.drop_left]
    rw [feed_torn k r (n - (wrL f).length) (out ++ [f]) (fun x hx => hg x (by simp [hx])) (by simpa using hk) (by omega)
      (fun hk2 => by have := h2 (by simp [hk2]); rw [len_cons] at this; omega) (fun hk2 => by have := h3 (by simp; omega); rw [len_take] at this; omega)]
    have e5 : ∀ (X : List UInt8) (m : Nat), (wrL f ++ X).drop ((wrL f).length + m) = X.drop m := fun X m => by rw [← List.drop_drop, List.drop_left]
    rw [len_take, e5]
    simp
end Go.Proofs.Ytnooleopmlijeaa.frameL
