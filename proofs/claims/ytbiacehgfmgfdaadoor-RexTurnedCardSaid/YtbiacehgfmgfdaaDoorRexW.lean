/- Laws of what matches; expressions put together in memory. -/
import Derived.Test.YtbiacehgfmgfdaaDoorRexP
namespace Go.Proofs.YtbiacehgfmgfdaaDoor.eng
open Go.RowKit kit mix classL rexL classSets
theorem rex_cs {F : Nat → Prop} {w : World} {vk : Value} {r : Rx} (h : RexR F w (rexV r.kind r.cls vk) r) : RexIs F w (rexC r.kind r.cls vk) r := by
  obtain ⟨k, c, kids⟩ := r
  obtain ⟨vk', e, h1, h2⟩ := h
  dsimp only [Rx.kind, Rx.cls, Rx.kids] at e h1 h2 ⊢
  have : vk = vk' := by simpa [rexV, rexC, clsL] using e
  subst this
  exact rex_iff.2 ⟨_, rfl, h1, h2⟩
theorem two_rex {w : World} {g : Nat} {k : Int} {r q : Rx} {vk vk' : Value} (hk : kit.okI64 k) (h : (kidO g [rexC r.kind r.cls vk, rexC q.kind q.cls vk']).holds w) (hr : RexR (Low w) w (rexV r.kind r.cls vk) r) (hq : RexR (Low w) w (rexV q.kind q.cls vk') q) :
    RexR (Low w) w (rexV k C4.zero (.slice (some ⟨g, 0, none⟩) 2 2)) (.mk k C4.zero [r, q]) :=
  kids_rex (l := [(r.kind, r.cls, vk, r), (q.kind, q.cls, vk', q)]) hk h (Nat.le_refl 2) fun x hx => by
    simp only [List.mem_cons, List.not_mem_nil, or_false] at hx
    rcases hx with rfl | rfl
    · exact rex_cs hr
    · exact rex_cs hq
theorem star_rex {w : World} {g : Nat} {r : Rx} {vk : Value} (h : (kidO g [rexC r.kind r.cls vk]).holds w) (hr : RexR (Low w) w (rexV r.kind r.cls vk) r) :
    RexR (Low w) w (rexV 6 C4.zero (.slice (some ⟨g, 0, none⟩) 1 1)) (.mk 6 C4.zero [r]) :=
  kids_rex (l := [(r.kind, r.cls, vk, r)]) ⟨by decide, by decide⟩ h (by show 1 ≤ 2; omega) fun x hx => by
    simp only [List.mem_cons, List.not_mem_nil, or_false] at hx
    subst hx
    exact rex_cs hr
theorem star_rexK {w : World} {g : Nat} {k : Int} {c : C4} {kids : List Rx} {vk : Value} (h : (kidO g [rexC k c vk]).holds w) (hr : RexR (Low w) w (rexV k c vk) (.mk k c kids)) :
    RexR (Low w) w (rexV 6 C4.zero (.slice (some ⟨g, 0, none⟩) 1 1)) (.mk 6 C4.zero [.mk k c kids]) := star_rex (r := .mk k c kids) h hr
theorem two_rexK {w : World} {g : Nat} {q k k' : Int} {c c' : C4} {kids kids' : List Rx} {vk vk' : Value} (hq : kit.okI64 q) (h : (kidO g [rexC k c vk, rexC k' c' vk']).holds w) (hr : RexR (Low w) w (rexV k c vk) (.mk k c kids)) (hr' : RexR (Low w) w (rexV k' c' vk') (.mk k' c' kids')) :
    RexR (Low w) w (rexV q C4.zero (.slice (some ⟨g, 0, none⟩) 2 2)) (.mk q C4.zero [.mk k c kids, .mk k' c' kids']) := two_rex (r := .mk k c kids) (q := .mk k' c' kids') hq h hr hr'
theorem leaf_rex {F : Nat → Prop} {w : World} {k : Int} {c : C4} (hk : kit.okI64 k) : RexR F w (rexV k c (.slice none 0 0)) (.mk k c []) := ⟨_, rfl, hk, SlF.nil⟩
theorem byte_nz {b : Nat} (hb : b < 256) : rangeF b b ≠ C4.zero := fun h => by
  have h1 : (rangeF b b).mem b = true := by rw [range_mem _ _ _ hb, decide_eq_true_eq]; omega
  rw [h, zero_mem] at h1; cases h1
theorem byte_lang {b : UInt8} : Lang (.byte (rangeF b.toNat b.toNat)) [b] := ⟨b, rfl, by rw [range_mem _ _ _ b.toNat_lt, decide_eq_true_eq]; omega⟩
theorem is_fit {e : Re} {s : List UInt8} (h : Fit e 1 0) (hs : s.length ≤ 200) {b : Bool} (hb : b = true ↔ Lang e s) : isF (emb e) s = (b, false) := by
  obtain ⟨h1, h2⟩ := mat_fit h hs
  unfold isF
  rw [h1]
  refine Prod.ext (Bool.eq_iff_iff.2 ?_) rfl
  show (matF (emb e) s).1 = true ↔ _
  rw [h2, hb]
theorem is_bad {r : Rx} {s : List UInt8} (h : (isF r s).2 = false) : ∃ e, r = emb e ∧ Fit e 1 0 ∧ s.length ≤ 200 ∧ ((isF r s).1 = true ↔ Lang e s) := by
  have h : decide ((matF r s).2 ≠ 0) = false := h
  exact mat_zero (by simpa using h)
theorem is_no {r : Rx} {s : List UInt8} (h : (isF r s).2 = true) : (isF r s).1 = false := by
  have h : decide ((matF r s).2 ≠ 0) = true := h
  have h : (matF r s).2 ≠ 0 := of_decide_eq_true h
  show (matF r s).1 = false
  by_cases c : chkX r = 0
  · by_cases c2 : 200 < s.length
    · rw [mat_bad2 c c2]
    · exfalso
      apply h
      unfold matF
      rw [if_neg (by simpa using c), if_neg c2]
  · rw [mat_bad1 c]
theorem aaa_law : isF (.mk 6 C4.zero [.mk 3 (rangeF 97 97) []]) [97, 97, 97] = (true, false) := by
  refine is_fit (e := .star (.byte (rangeF 97 97))) ⟨byte_nz (b := 97) (by decide), by decide, by decide⟩ (by decide) ⟨fun _ => ?_, fun _ => rfl⟩
  have h : Lang (.byte (rangeF 97 97)) [97] := byte_lang (b := 97)
  exact .cons (u := [97]) h (.cons (u := [97]) h (.cons (u := [97]) h .nil))
theorem fit_kids {r q : Rx} {k : Int} {e : Re} (h : emb e = .mk k C4.zero [r, q]) : (∃ a b, r = emb a ∧ q = emb b ∧ ((e = .cat a b ∧ k = 4) ∨ (e = .alt a b ∧ k = 5))) := by
  cases e with
  | cat a b => simp [emb] at h; exact ⟨a, b, h.2.1.symm, h.2.2.symm, .inl ⟨rfl, h.1.symm⟩⟩
  | alt a b => simp [emb] at h; exact ⟨a, b, h.2.1.symm, h.2.2.symm, .inr ⟨rfl, h.1.symm⟩⟩
  | _ => simp [emb] at h
theorem alg_law (r q : Rx) (s : List UInt8) :
    ((isF (.mk 5 C4.zero [r, q]) s).2 || ((isF (.mk 5 C4.zero [q, r]) s).2 || ((isF r s).2 || ((isF q s).2 || ((isF (.mk 4 C4.zero [r, .mk 2 C4.zero []]) s).2 || (isF (.mk 4 C4.zero [r, .mk 1 C4.zero []]) s).2))))) = true ∨
    ((isF (.mk 5 C4.zero [r, q]) s).1 = (isF (.mk 5 C4.zero [q, r]) s).1 ∧ (isF (.mk 5 C4.zero [r, q]) s).1 = ((isF r s).1 || (isF q s).1) ∧ (isF (.mk 4 C4.zero [r, .mk 2 C4.zero []]) s).1 = (isF r s).1 ∧ (isF (.mk 4 C4.zero [r, .mk 1 C4.zero []]) s).1 = false) := by
  by_cases h : ((isF (.mk 5 C4.zero [r, q]) s).2 || ((isF (.mk 5 C4.zero [q, r]) s).2 || ((isF r s).2 || ((isF q s).2 || ((isF (.mk 4 C4.zero [r, .mk 2 C4.zero []]) s).2 || (isF (.mk 4 C4.zero [r, .mk 1 C4.zero []]) s).2))))) = true
  · exact .inl h
  · right
    simp only [Bool.or_eq_true, not_or, Bool.not_eq_true] at h
    obtain ⟨h1, h2, h3, h4, h5, h6⟩ := h
    obtain ⟨x, rfl, _, _, x1⟩ := is_bad h3
    obtain ⟨y, rfl, _, _, y1⟩ := is_bad h4
    obtain ⟨e1, q1, _, _, z1⟩ := is_bad h1
    obtain ⟨e2, q2, _, _, z2⟩ := is_bad h2
    obtain ⟨e3, q3, _, _, z3⟩ := is_bad h5
    obtain ⟨e4, q4, _, _, z4⟩ := is_bad h6
    obtain rfl : Re.alt x y = e1 := emb_inj q1
    obtain rfl : Re.alt y x = e2 := emb_inj q2
    obtain rfl : Re.cat x .empty = e3 := emb_inj q3
    obtain rfl : Re.cat x .none = e4 := emb_inj q4
    refine ⟨Bool.eq_iff_iff.2 ?_, Bool.eq_iff_iff.2 ?_, Bool.eq_iff_iff.2 ?_, ?_⟩
    · rw [z1, z2]; exact ⟨fun h => h.symm, fun h => h.symm⟩
    · rw [z1, Bool.or_eq_true, x1, y1]; exact Iff.rfl
    · rw [z3, x1]
      constructor
      · rintro ⟨u, v, rfl, a, b⟩
        have b : v = [] := b
        subst b
        rw [List.append_nil]; exact a
      · intro a; exact ⟨s, [], by simp, a, rfl⟩
    · apply Bool.eq_false_iff.2
      intro hh
      obtain ⟨u, v, _, _, b⟩ := z4.1 hh
      exact b
end Go.Proofs.YtbiacehgfmgfdaaDoor.eng
