/- One byte of a written frame is turned: no program in sight. -/
import Derived.Test.YtnooleopmlijeaaFrameL
import Derived.Test.YtnooleopmlijeaaSumT
namespace Go.Proofs.Ytnooleopmlijeaa.frameL
open sumL
theorem crc_set {l : List UInt8} {p : Nat} {x : UInt8} (hp : p < l.length) (h : l[p] ≠ x) : crc (l.set p x) ≠ crc l := by
  intro hc
  have e1 : l.set p x = l.take p ++ x :: l.drop (p + 1) := List.set_eq_take_append_cons_drop.trans (by rw [if_pos hp])
  have e2 : l = l.take p ++ l[p] :: l.drop (p + 1) := by rw [List.getElem_cons_drop, List.take_append_drop]
  rw [e1] at hc
  conv at hc => rhs; rw [e2]
  unfold crc more at hc
  have h1 : roll (~~~0) (l.take p ++ x :: l.drop (p + 1)) = roll (~~~0) (l.take p ++ l[p] :: l.drop (p + 1)) := by
    have := congrArg (fun x => ~~~x) hc
    simpa using this
  have app : ∀ y a b, roll y (a ++ b) = roll (roll y a) b := fun y a b => by simp [roll]
  rw [app, app] at h1
  generalize roll (~~~0) (l.take p) = y at h1
  have h2 : byteB y x = byteB y l[p] := by
    have : roll (byteB y x) (l.drop (p + 1)) = roll (byteB y l[p]) (l.drop (p + 1)) := h1
    exact roll_inj _ this
  have h3 := bits8_inj 8 h2
  have h4 : BitVec.ofNat 32 x.toNat = BitVec.ofNat 32 l[p].toNat := by
    have := congrArg (fun z => y ^^^ z) h3
    simpa [xself] using this
  apply h
  apply UInt8.toNat_inj.1
  have h5 := congrArg BitVec.toNat h4
  have := x.toNat_lt
  have := l[p].toNat_lt
  rw [BitVec.toNat_ofNat, BitVec.toNat_ofNat] at h5
  omega
theorem le4_tail {c : Nat} (hc : c < 4294967296) : le4 (tailL c) = c := by
  simp only [le4, bi, tailL, List.getD_cons_zero, List.getD_cons_succ, UInt8.toNat_ofNat']
  omega
theorem bi_set_ne {s : List UInt8} {p i : Nat} {x : UInt8} (h : p ≠ i) : bi (s.set p x) i = bi s i := by
  simp [bi, List.getD_eq_getElem?_getD, List.getElem?_set, h]
theorem bi_set {s : List UInt8} {p : Nat} {x : UInt8} (h : p < s.length) : bi (s.set p x) p = x.toNat := by
  simp [bi, List.getD_eq_getElem?_getD, h]
theorem bi_of {s : List UInt8} {p : Nat} (h : p < s.length) : bi s p = s[p].toNat := by simp [bi, h]
theorem le4_set {s : List UInt8} {p : Nat} {x : UInt8} (h4 : p < 4) (hp : p < s.length) (h : s[p] ≠ x) : le4 (s.set p x) ≠ le4 s := by
  have hb := bi_of hp
  have hx := bi_set (x := x) hp
  have hne : bi (s.set p x) p ≠ bi s p := fun e => h (UInt8.toNat_inj.1 (by rw [← hb, ← e, hx]))
  have l := fun i => bi_lt s i
  have l' := fun i => bi_lt (s.set p x) i
  have a0 := l 0
  have a1 := l 1
  have a2 := l 2
  have a3 := l 3
  have b0 := l' 0
  have b1 := l' 1
  have b2 := l' 2
  have b3 := l' 3
  clear l l' hb hx h
  intro e
  unfold le4 at e
  have : p = 0 ∨ p = 1 ∨ p = 2 ∨ p = 3 := by omega
  rcases this with rfl | rfl | rfl | rfl <;> omega
theorem head_length (f : Fm) : (headL f).length = f.2.2.length + 4 := by simp [headL]
theorem wr_bi0 {f : Fm} (h : checkFr f = 0) : (bi (wrL f) 0 : Int) = f.1 ∧ (bi (wrL f) 1 : Int) = f.2.1 ∧ nn (wrL f) = f.2.2.length := by
  have := checkFr_ok h
  simp only [wrL, headL, List.cons_append, bi, nn, List.getD_cons_zero, List.getD_cons_succ, UInt8.toNat_ofNat']
  omega
theorem turned {f : Fm} (h : checkFr f = 0) {p : Nat} {x : UInt8} (h4 : 4 ≤ p) (hp : p < (wrL f).length) (hx : (wrL f)[p] ≠ x) : frontF ((wrL f).set p x) = (zeroFr, 0, 5) := by
  obtain ⟨a0, a1, a2⟩ := wr_bi0 h
  have ho := checkFr_ok h
  have hl := wrL_length f
  have hh := head_length f
  have hn : nn ((wrL f).set p x) = f.2.2.length := by rw [← a2, nn, nn, bi_set_ne (by omega), bi_set_ne (by omega)]
  have h0 : bi ((wrL f).set p x) 0 = bi (wrL f) 0 := bi_set_ne (by omega)
  have htl := le4_tail (c := (crc (headL f)).toNat) (crc (headL f)).isLt
  have key : (crc (((wrL f).set p x).take (f.2.2.length + 4))).toNat ≠ le4 (((wrL f).set p x).drop (f.2.2.length + 4)) := by
    have et : (wrL f).take (f.2.2.length + 4) = headL f := by rw [wrL, ← hh]; simp
    have ed : (wrL f).drop (f.2.2.length + 4) = tailL (crc (headL f)).toNat := by rw [wrL, ← hh]; simp
    by_cases c : p < f.2.2.length + 4
    · rw [List.drop_set, if_pos c, ed, htl, List.take_set, et]
      intro e
      refine crc_set (l := headL f) (p := p) (x := x) (by omega) ?_ (BitVec.eq_of_toNat_eq e)
      intro e2
      apply hx
      rw [← e2]
      simp [wrL, List.getElem_append, hh, c]
    · rw [List.drop_set, if_neg c, List.take_set, et, ed, List.set_eq_of_length_le (by omega)]
      intro e
      refine le4_set (s := tailL (crc (headL f)).toNat) (p := p - (f.2.2.length + 4)) (x := x) (by omega) (by simp [tailL]; omega) ?_ (by rw [← e, htl])
      intro e2
      apply hx
      rw [← e2]
      simp [wrL, List.getElem_append, hh, c]
  unfold frontF
  rw [hn, h0, List.length_set, if_neg (by omega), if_neg (by omega), if_neg (by omega), if_neg (by omega), if_pos key]
theorem bi_app {s t : List UInt8} {i : Nat} (h : i < s.length) : bi (s ++ t) i = bi s i := by
  simp [bi, List.getD_eq_getElem?_getD, List.getElem?_append, h]
theorem front_whole {f : Fm} (h : checkFr f = 0) (t : List UInt8) : frontF (wrL f ++ t) = (f, (wrL f).length, 0) := by
  obtain ⟨a0, a1, a2⟩ := wr_bi0 h
  have ho := checkFr_ok h
  have hl := wrL_length f
  have hh := head_length f
  have hn : nn (wrL f ++ t) = f.2.2.length := by rw [← a2, nn, nn, bi_app (by omega), bi_app (by omega)]
  have h0 : bi (wrL f ++ t) 0 = bi (wrL f) 0 := bi_app (by omega)
  have h1 : bi (wrL f ++ t) 1 = bi (wrL f) 1 := bi_app (by omega)
  have et : (wrL f ++ t).take (f.2.2.length + 4) = headL f := by rw [wrL, ← hh]; simp
  have ed : (wrL f ++ t).drop (f.2.2.length + 4) = tailL (crc (headL f)).toNat ++ t := by rw [wrL, ← hh]; simp
  have htl := le4_tail (c := (crc (headL f)).toNat) (crc (headL f)).isLt
  have hle : le4 (tailL (crc (headL f)).toNat ++ t) = (crc (headL f)).toNat := Eq.trans rfl htl
  unfold frontF
  rw [hn, h0, h1, List.length_append, if_neg (by omega), if_neg (by omega), if_neg (by omega), if_neg (by omega), et, ed, hle, if_neg (by simp), a0, a1, hl]
  obtain ⟨k, q, b⟩ := f
  simp [wrL, headL]
end Go.Proofs.Ytnooleopmlijeaa.frameL
