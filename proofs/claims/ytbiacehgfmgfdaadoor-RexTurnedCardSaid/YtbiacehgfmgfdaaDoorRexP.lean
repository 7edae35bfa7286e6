/- What rex.Matches, pushkeep.is, letter, star, two compute. -/
import Derived.Test.YtbiacehgfmgfdaaDoorRexE
namespace Go.Proofs.YtbiacehgfmgfdaaDoor.eng
open Go.RowKit kit mix classL rexL classSets
theorem emb_inj : ∀ {a b : Re}, emb a = emb b → a = b := by
  intro a
  induction a with
  | none => intro b h; cases b <;> simp [emb] at h ⊢
  | empty => intro b h; cases b <;> simp [emb] at h ⊢
  | byte c => intro b h; cases b <;> simp [emb] at h ⊢; exact h
  | cat x y ihx ihy =>
    intro b h
    cases b <;> simp [emb] at h ⊢
    exact ⟨ihx h.1, ihy h.2⟩
  | alt x y ihx ihy =>
    intro b h
    cases b <;> simp [emb] at h ⊢
    exact ⟨ihx h.1, ihy h.2⟩
  | star x ih =>
    intro b h
    cases b <;> simp [emb] at h ⊢
    exact ih h
def LangX (r : Rx) (s : List UInt8) : Prop := ∃ e, r = emb e ∧ Lang e s
theorem langX (e : Re) (s : List UInt8) : LangX (emb e) s ↔ Lang e s := ⟨fun ⟨e', h, h2⟩ => by rw [emb_inj h]; exact h2, fun h => ⟨e, rfl, h⟩⟩
open Classical in
/-- what Matches says -/
noncomputable def matF (r : Rx) (s : List UInt8) : Bool × Int := if chkX r ≠ 0 then (false, chkX r) else if 200 < s.length then (false, 2) else (decide (LangX r s), 0)
theorem mat_bad1 {r : Rx} {s : List UInt8} (h : chkX r ≠ 0) : matF r s = (false, chkX r) := by unfold matF; rw [if_pos h]
theorem mat_bad2 {r : Rx} {s : List UInt8} (h : chkX r = 0) (h2 : 200 < s.length) : matF r s = (false, 2) := by unfold matF; rw [if_neg (by simpa using h), if_pos h2]
theorem mat_ok {r : Rx} {s : List UInt8} (h : chkX r = 0) (h2 : ¬ 200 < s.length) {b : Bool} (hb : b = true ↔ LangX r s) : matF r s = (b, 0) := by
  unfold matF
  rw [if_neg (by simpa using h), if_neg h2]
  congr 1
  apply Bool.eq_iff_iff.2
  rw [hb]; simp
theorem chkX_fit {r : Rx} (h : chkX r = 0) : ∃ e, r = emb e ∧ Fit e 1 0 := by
  obtain ⟨e, h1, h2, _⟩ := chk_fit _ r 1 0 (chk r 1 0).2 (Nat.le_refl _) (Prod.ext h rfl)
  exact ⟨e, h1, h2⟩
theorem fit_chkX {e : Re} (h : Fit e 1 0) : chkX (emb e) = 0 := by unfold chkX; rw [fit_chk e 1 0 h]
theorem mat_zero {r : Rx} {s : List UInt8} (h : (matF r s).2 = 0) : ∃ e, r = emb e ∧ Fit e 1 0 ∧ s.length ≤ 200 ∧ ((matF r s).1 = true ↔ Lang e s) := by
  by_cases c : chkX r = 0
  · by_cases c2 : 200 < s.length
    · rw [mat_bad2 c c2] at h; simp at h
    · obtain ⟨e, rfl, hf⟩ := chkX_fit c
      refine ⟨e, rfl, hf, by omega, ?_⟩
      unfold matF
      rw [if_neg (by simpa using c), if_neg c2, ← langX]
      simp
  · rw [mat_bad1 c] at h; exact absurd h c
theorem mat_fit {e : Re} {s : List UInt8} (h : Fit e 1 0) (hs : s.length ≤ 200) : (matF (emb e) s).2 = 0 ∧ ((matF (emb e) s).1 = true ↔ Lang e s) := by
  unfold matF
  rw [if_neg (by simpa using fit_chkX h), if_neg (by omega)]
  refine ⟨rfl, ?_⟩
  rw [← langX]; simp
theorem build_spans (s : List UInt8) (g : Nat) (w : World) : (Instr.build 69 #[(0, str s), (1, .map (some g))]).run Tryd.prog w = .ok (.agg #[str s, .map (some g)]) w := by kernel_rfl
theorem wrapL8 {k : Nat} (h : k < 256) : IntKind.u8.wrap (k : Int) = (k : Int) := by
  rw [IntKind.wrap_u8]; omega
set_option maxRecDepth 100000 in
set_option maxHeartbeats 16000000 in
theorem matches_calls (v : Value) (r : Rx) (s : List UInt8) (w : World) (hT : TabW w) (hv : RexR (Low w) w v r) (hs : s.length ≤ 9223372036854775807) :
    Calls Tryd.prog 36 #[v, str s] w (Meets (ret (.tuple #[.bool (matF r s).1, .int .i64 (matF r s).2])) w) := by
  have hck := fun w' (hg : Gr w w') => rexCheck_calls v r w' (hv.gr hg)
  by_cases hc : chkX r = 0
  · obtain ⟨e, rfl, hfit⟩ := chkX_fit hc
    rw [hc] at hck
    rw [emb_eq] at hv
    obtain ⟨vk, rfl, hk64, hks⟩ := hv
    dsimp only [Rx.kind, Rx.cls, Rx.kids] at hk64 hks hck ⊢
    have hnum := fun gn w' B ho hm => number_calls w gn _ e (Nat.le_refl _) vk 0 w' B hk64 hks (by have := hfit.sz; omega) ho hm
    obtain ⟨bk, ck, rfl, -⟩ := hks
    rw [List.length_map] at hck hnum ⊢
    by_cases hl : 200 < s.length
    · rw [mat_bad2 hc hl]
      refine enter (args := [rexV e.kind e.cls (.slice bk e.kids.length ck), str s]) (n := 29) Tryd.func36 rfl rfl rfl ?_
      refine T_seq (T_region (TL_box rfl rfl rfl fun g2 => ?_))
      repeat (first
        | refine qv rfl (qp rfl) rfl rfl ?_ | refine TL_nil ?_ | refine T_seq ?_ | refine T_region ?_ | refine qcT rfl ?_ | refine qcF rfl ?_ | refine T_skip ?_
        | refine T_ret ?_ | refine E_then ?_ | refine E_thenR ?_ | refine qv rfl (rr_loadB (i := 0) TyC.ty rfl rfl rfl) rfl rfl ?_
        | refine qv rfl (rr_strlen Und.eq rfl) rfl rfl ?_ | refine qv rfl (rr_gtr rfl rfl (qT (by omega))) rfl rfl ?_
        | refine qv rfl (rr_gtr rfl rfl (qF (by omega))) rfl rfl ?_ | refine qv rfl (rr_neq rfl rfl (qT (by omega))) rfl rfl ?_
        | refine qv rfl (rr_neq rfl rfl (qF (by omega))) rfl rfl ?_)
      refine TL_call (he1 EntersC.en rfl rfl) (fun w hm => hck _ hm.below) rfl rfl rfl ?_
      intro _ _
      repeat (first
        | refine qv rfl (qp rfl) rfl rfl ?_ | refine TL_nil ?_ | refine T_seq ?_ | refine T_region ?_ | refine qcT rfl ?_ | refine qcF rfl ?_ | refine T_skip ?_
        | refine T_ret ?_ | refine E_then ?_ | refine E_thenR ?_ | refine qv rfl (rr_strlen Und.eq rfl) rfl rfl ?_
        | refine qv rfl (rr_strlen Und.eq rfl) rfl rfl ?_ | refine qv rfl (rr_gtr rfl rfl (qT (by omega))) rfl rfl ?_
        | refine qv rfl (rr_gtr rfl rfl (qF (by omega))) rfl rfl ?_ | refine qv rfl (rr_neq rfl rfl (qT (by omega))) rfl rfl ?_
        | refine qv rfl (rr_neq rfl rfl (qF (by omega))) rfl rfl ?_)
      exact E_ret2 rfl rfl rfl fun w hm => hm.ret
    · have hsz := hfit.sz
      have hends := fun gs gm F w1 v' hn => ends_calls w hT s (by omega) (nodeAt e 0) gs gm F w1 _ e (Nat.le_refl _) 0 (numC e 0 (.slice bk e.kids.length ck) v') hn (fun i _ _ => rfl) (by omega)
      have hbs := build_spans s
      have hh := fun c w => has_calls c s.length (by omega) w
      clear hk64
      refine enter (args := [rexV e.kind e.cls (.slice bk e.kids.length ck), str s]) (n := 29) Tryd.func36 rfl rfl rfl ?_
      refine T_seq (T_region (TL_box rfl rfl rfl fun g2 => ?_))
      repeat (first
        | refine qv rfl (qp rfl) rfl rfl ?_ | refine TL_nil ?_ | refine T_seq ?_ | refine T_region ?_ | refine qcT rfl ?_ | refine qcF rfl ?_ | refine T_skip ?_
        | refine T_ret ?_ | refine E_then ?_ | refine E_thenR ?_ | refine qv rfl (rr_loadB (i := 0) TyC.ty rfl rfl rfl) rfl rfl ?_
        | refine qv rfl (rr_strlen Und.eq rfl) rfl rfl ?_ | refine qv rfl (rr_gtr rfl rfl (qT (by omega))) rfl rfl ?_
        | refine qv rfl (rr_gtr rfl rfl (qF (by omega))) rfl rfl ?_ | refine qv rfl (rr_neq rfl rfl (qT (by omega))) rfl rfl ?_
        | refine qv rfl (rr_neq rfl rfl (qF (by omega))) rfl rfl ?_)
      refine TL_call (he1 EntersC.en rfl rfl) (fun w hm => hck _ hm.below) rfl rfl rfl ?_
      intro _ _
      repeat (first
        | refine qv rfl (qp rfl) rfl rfl ?_ | refine TL_nil ?_ | refine T_seq ?_ | refine T_region ?_ | refine qcT rfl ?_ | refine qcF rfl ?_ | refine T_skip ?_
        | refine T_ret ?_ | refine E_then ?_ | refine E_thenR ?_ | refine qv rfl (rr_strlen Und.eq rfl) rfl rfl ?_
        | refine qv rfl (rr_strlen Und.eq rfl) rfl rfl ?_ | refine qv rfl (rr_gtr rfl rfl (qT (by omega))) rfl rfl ?_
        | refine qv rfl (rr_gtr rfl rfl (qF (by omega))) rfl rfl ?_ | refine qv rfl (rr_neq rfl rfl (qT (by omega))) rfl rfl ?_
        | refine qv rfl (rr_neq rfl rfl (qF (by omega))) rfl rfl ?_)
      refine TL_new rfl fun g7 => ?_
      conv => arg 8; simp only [zA, zB, zC, zD, zE, zF, zG, zH, zI, rowS, ret, id_eq]
      refine TL_store1 (i := 1) rfl rfl rfl rfl rfl rfl ?_
      conv => arg 8; simp only [zA, zB, zC, zD, zE, zF, zG, zH, zI, rowS, ret, id_eq]
      repeat (first
        | refine qv rfl (qp rfl) rfl rfl ?_ | refine TL_nil ?_ | refine T_seq ?_ | refine T_region ?_ | refine qcT rfl ?_ | refine qcF rfl ?_ | refine T_skip ?_
        | refine T_ret ?_ | refine E_then ?_ | refine E_thenR ?_ | refine qv rfl (rr_strlen Und.eq rfl) rfl rfl ?_
        | refine qv rfl (rr_gtr rfl rfl (qT (by omega))) rfl rfl ?_ | refine qv rfl (rr_gtr rfl rfl (qF (by omega))) rfl rfl ?_
        | refine qv rfl (rr_neq rfl rfl (qT (by omega))) rfl rfl ?_ | refine qv rfl (rr_neq rfl rfl (qF (by omega))) rfl rfl ?_)
      refine TL_map atK rfl fun gm => ?_
      conv => arg 8; simp only [zA, zB, zC, zD, zE, zF, zG, zH, zI, rowS, ret, id_eq]
      repeat (first
        | refine qv rfl (qp rfl) rfl rfl ?_ | refine TL_nil ?_ | refine T_seq ?_ | refine T_region ?_ | refine qcT rfl ?_ | refine qcF rfl ?_ | refine T_skip ?_
        | refine T_ret ?_ | refine E_then ?_ | refine E_thenR ?_ | refine qv rfl (rr_build rfl (hbs gm)) rfl rfl ?_
        | refine qv rfl (rr_strlen Und.eq rfl) rfl rfl ?_ | refine qv rfl (rr_gtr rfl rfl (qT (by omega))) rfl rfl ?_
        | refine qv rfl (rr_gtr rfl rfl (qF (by omega))) rfl rfl ?_ | refine qv rfl (rr_neq rfl rfl (qT (by omega))) rfl rfl ?_
        | refine qv rfl (rr_neq rfl rfl (qF (by omega))) rfl rfl ?_)
      refine TL_box rfl rfl rfl fun gs => ?_
      conv => arg 8; simp only [zA, zB, zC, zD, zE, zF, zG, zH, zI, rowS, ret, id_eq]
      repeat (first
        | refine qv rfl (qp rfl) rfl rfl ?_ | refine TL_nil ?_ | refine T_seq ?_ | refine T_region ?_ | refine qcT rfl ?_ | refine qcF rfl ?_ | refine T_skip ?_
        | refine T_ret ?_ | refine E_then ?_ | refine E_thenR ?_ | refine qv rfl (rr_loadB (i := 0) TyC.ty rfl rfl rfl) rfl rfl ?_
        | refine qv rfl (rr_strlen Und.eq rfl) rfl rfl ?_ | refine qv rfl (rr_gtr rfl rfl (qT (by omega))) rfl rfl ?_
        | refine qv rfl (rr_gtr rfl rfl (qF (by omega))) rfl rfl ?_ | refine qv rfl (rr_neq rfl rfl (qT (by omega))) rfl rfl ?_
        | refine qv rfl (rr_neq rfl rfl (qF (by omega))) rfl rfl ?_)
      refine TL_callB [1] [0, 2, 3] (by decide) rfl rfl (he2 EntersC.en rfl rfl rfl) (fun w hm hb => hnum g7 w _ ((Old.self _).on hm (by intro o ho; simp at ho ⊢; simp [ho])) hb) rfl rfl rfl ?_
      rintro ⟨v', F⟩ _
      conv => arg 8; simp only [zA, zB, zC, zD, zE, zF, zG, zH, zI, rowS, ret, id_eq, numSp]
      refine TL_freeze (i := 4) F rfl (fun k hk => .inr hk) fun w1 hw1 => ?_
      conv => arg 8; simp only [zA, zB, zC, zD, zE, zF, zG, zH, zI, rowS, ret, id_eq]
      have hnum' : NumIs F w1 (numC e 0 (.slice bk e.kids.length ck) v') (e, 0) := by
        obtain ⟨⟨v'', hv', h5⟩, _⟩ := hw1
        simp only [List.cons.injEq, and_true] at hv'
        subst hv'
        exact num_iff.2 ⟨_, _, rfl, rfl, h5⟩
      refine TL_callB [2, 1, 4] [0, 3] (by decide) rfl rfl (he3 EntersC.en rfl rfl rfl rfl) (fun w hm hb => hends gs gm F w1 v' hnum' 0 (fun _ => none) 0 w _ (Nat.zero_le _) (mok0 s _) ((Old.self _).on hm (by intro o ho; simp [spO, mO] at ho ⊢; rcases ho with h | h | h <;> simp [h])) hb) rfl rfl rfl ?_
      rintro ⟨c, m', n'⟩ ⟨hc', _⟩
      dsimp only [endSp]
      refine TL_pick [] (by decide) rfl ?_
      have hres : matF (emb e) s = (c.mem s.length, 0) := by
        refine mat_ok hc hl ?_
        rw [langX, hc' s.length (by omega)]
        unfold EndP
        rw [seg_all]
        simp
      rw [hres]
      repeat (first
        | refine qv rfl (qp rfl) rfl rfl ?_ | refine TL_nil ?_ | refine T_seq ?_ | refine T_region ?_ | refine qcT rfl ?_ | refine qcF rfl ?_ | refine T_skip ?_
        | refine T_ret ?_ | refine E_then ?_ | refine E_thenR ?_ | refine qv rfl (rr_strlen Und.eq rfl) rfl rfl ?_
        | refine qv rfl (rr_conv Und.eq Und.eq rfl (wrapL8 (by omega))) rfl rfl ?_ | refine qv rfl (rr_strlen Und.eq rfl) rfl rfl ?_
        | refine qv rfl (rr_gtr rfl rfl (qT (by omega))) rfl rfl ?_ | refine qv rfl (rr_gtr rfl rfl (qF (by omega))) rfl rfl ?_
        | refine qv rfl (rr_neq rfl rfl (qT (by omega))) rfl rfl ?_ | refine qv rfl (rr_neq rfl rfl (qF (by omega))) rfl rfl ?_)
      refine TL_call (he2 EntersC.en rfl rfl rfl) (fun w hm => hh c _) rfl rfl rfl ?_
      intro _ _
      repeat (first
        | refine qv rfl (qp rfl) rfl rfl ?_ | refine TL_nil ?_ | refine T_seq ?_ | refine T_region ?_ | refine qcT rfl ?_ | refine qcF rfl ?_ | refine T_skip ?_
        | refine T_ret ?_ | refine E_then ?_ | refine E_thenR ?_ | refine qv rfl (rr_strlen Und.eq rfl) rfl rfl ?_
        | refine qv rfl (rr_gtr rfl rfl (qT (by omega))) rfl rfl ?_ | refine qv rfl (rr_gtr rfl rfl (qF (by omega))) rfl rfl ?_
        | refine qv rfl (rr_neq rfl rfl (qT (by omega))) rfl rfl ?_ | refine qv rfl (rr_neq rfl rfl (qF (by omega))) rfl rfl ?_)
      exact E_ret2 rfl rfl rfl fun w hm => hm.ret
  · rw [mat_bad1 hc]
    obtain ⟨vk, rfl, _, hks⟩ := hv
    obtain ⟨bk, ck, rfl, -⟩ := hks
    generalize r.kids.length = m at *
    generalize chkX r = z at *
    refine enter (args := [rexV r.kind r.cls (.slice bk m ck), str s]) (n := 29) Tryd.func36 rfl rfl rfl ?_
    refine T_seq (T_region (TL_box rfl rfl rfl fun g2 => ?_))
    repeat (first
      | refine qv rfl (qp rfl) rfl rfl ?_ | refine TL_nil ?_ | refine T_seq ?_ | refine T_region ?_ | refine qcT rfl ?_ | refine qcF rfl ?_ | refine T_skip ?_
      | refine T_ret ?_ | refine E_then ?_ | refine E_thenR ?_ | refine qv rfl (rr_loadB (i := 0) TyC.ty rfl rfl rfl) rfl rfl ?_
      | refine qv rfl (rr_strlen Und.eq rfl) rfl rfl ?_ | refine qv rfl (rr_gtr rfl rfl (qT (by omega))) rfl rfl ?_
      | refine qv rfl (rr_gtr rfl rfl (qF (by omega))) rfl rfl ?_ | refine qv rfl (rr_neq rfl rfl (qT (by omega))) rfl rfl ?_
      | refine qv rfl (rr_neq rfl rfl (qF (by omega))) rfl rfl ?_)
    refine TL_call (he1 EntersC.en rfl rfl) (fun w hm => hck _ hm.below) rfl rfl rfl ?_
    intro _ _
    repeat (first
      | refine qv rfl (qp rfl) rfl rfl ?_ | refine TL_nil ?_ | refine T_seq ?_ | refine T_region ?_ | refine qcT rfl ?_ | refine qcF rfl ?_ | refine T_skip ?_
      | refine T_ret ?_ | refine E_then ?_ | refine E_thenR ?_ | refine qv rfl (rr_neq (b := true) rfl rfl (decide_eq_true hc)) rfl rfl ?_
      | refine qv rfl (rr_strlen Und.eq rfl) rfl rfl ?_ | refine qv rfl (rr_gtr rfl rfl (qT (by omega))) rfl rfl ?_
      | refine qv rfl (rr_gtr rfl rfl (qF (by omega))) rfl rfl ?_ | refine qv rfl (rr_neq rfl rfl (qT (by omega))) rfl rfl ?_
      | refine qv rfl (rr_neq rfl rfl (qF (by omega))) rfl rfl ?_)
    exact E_ret2 rfl rfl rfl fun w hm => hm.ret
/-- what is says -/
noncomputable def isF (r : Rx) (s : List UInt8) : Bool × Bool := ((matF r s).1, decide ((matF r s).2 ≠ 0))
theorem is_calls (v : Value) (r : Rx) (s : List UInt8) (w : World) (hT : TabW w) (hv : RexR (Low w) w v r) (hs : s.length ≤ 9223372036854775807) :
    Calls Tryd.prog 25 #[v, str s] w (Meets (ret (.tuple #[.bool (isF r s).1, .bool (isF r s).2])) w) := by
  have hM := fun w' (hg : Gr w w') hT' => matches_calls v r s w' hT' (hv.gr hg) hs
  obtain ⟨vk, rfl, _, hks⟩ := hv
  obtain ⟨bk, ck, rfl, -⟩ := hks
  unfold isF
  generalize matF r s = z at *
  obtain ⟨b, e⟩ := z
  dsimp only at hM ⊢
  generalize r.kids.length = m at *
  refine enter (args := [rexV r.kind r.cls (.slice bk m ck), str s]) (n := 17) Tryd.func25 rfl rfl rfl ?_
  refine T_seq (T_region (TL_box rfl rfl rfl fun g2 => ?_))
  repeat (first
    | refine qv rfl (qp rfl) rfl rfl ?_ | refine TL_nil ?_ | refine T_seq ?_ | refine T_region ?_ | refine T_ret ?_ | refine E_then ?_ | refine E_thenR ?_
    | refine qv rfl (rr_loadB (i := 0) TyC.ty rfl rfl rfl) rfl rfl ?_ | refine qv rfl (rr_neq rfl rfl (qT (by omega))) rfl rfl ?_
    | refine qv rfl (rr_neq rfl rfl (qF (by omega))) rfl rfl ?_)
  refine TL_call (he2 EntersC.en rfl rfl rfl) (fun w hm => hM _ hm.below (hT.up hm)) rfl rfl rfl ?_
  intro _ _
  repeat (first
    | refine qv rfl (qp rfl) rfl rfl ?_ | refine TL_nil ?_ | refine T_seq ?_ | refine T_region ?_ | refine T_ret ?_ | refine E_then ?_ | refine E_thenR ?_
    | refine qv rfl (rr_neq (b := decide (e ≠ 0)) rfl rfl rfl) rfl rfl ?_ | refine qv rfl (rr_neq rfl rfl (qT (by omega))) rfl rfl ?_
    | refine qv rfl (rr_neq rfl rfl (qF (by omega))) rfl rfl ?_)
  exact E_ret2 rfl rfl rfl fun w hm => hm.ret
theorem build_rexL (c : C4) (w : World) : (Instr.build 44 #[(0, .int .i64 3), (1, clsV c)]).run Tryd.prog w = .ok (rexV 3 c (.slice none 0 0)) w := by kernel_rfl
theorem build_rexK (k : Int) (w : World) : (Instr.build 44 #[(0, .int .i64 k)]).run Tryd.prog w = .ok (rexV k C4.zero (.slice none 0 0)) w := by kernel_rfl
theorem build_rexN (k : Int) (g n : Nat) (w : World) : (Instr.build 44 #[(0, .int .i64 k), (2, .slice (some ⟨g, 0, none⟩) n n)]).run Tryd.prog w = .ok (rexV k C4.zero (.slice (some ⟨g, 0, none⟩) n n)) w := by kernel_rfl
theorem letter_calls (b : Int) (w : World) (hb : kit.okI64 b) : Calls Tryd.prog 27 #[.int .i64 b] w (Meets (ret (rexV 3 (rangeF b b) (.slice none 0 0))) w) := by
  have hr := fun w => rangeE b b hb hb w
  have hbl := build_rexL (rangeF b b)
  generalize rangeF b b = c at *
  refine enter (args := [.int .i64 b]) (n := 7) Tryd.func27 rfl rfl rfl ?_
  refine T_seq (T_region (TL_new rfl fun g2 => ?_))
  conv => arg 8; simp only [zA, zB, zC, zD, zE, zF, zG, zH, zI, rowS, ret, id_eq]
  repeat (first
    | refine qv rfl (qp rfl) rfl rfl ?_ | refine TL_nil ?_ | refine T_seq ?_ | refine T_region ?_ | refine T_ret ?_ | refine E_then ?_ | refine E_thenR ?_)
  refine TL_call (he2 EntersC.en rfl rfl rfl) (fun w hm => hr _) rfl rfl rfl ?_
  intro _ _
  conv => arg 8; simp only [zA, zB, zC, zD, zE, zF, zG, zH, zI, rowS, ret, id_eq]
  repeat (first
    | refine qv rfl (qp rfl) rfl rfl ?_ | refine TL_nil ?_ | refine T_seq ?_ | refine T_region ?_ | refine T_ret ?_ | refine E_then ?_ | refine E_thenR ?_
    | refine qv rfl (rr_build rfl hbl) rfl rfl ?_)
  refine TL_storeB (i := 0) (cs' := (rexC 3 c (.slice none 0 0)).toArray) rfl rfl rfl rfl rfl rfl ?_
  conv => arg 8; simp only [zA, zB, zC, zD, zE, zF, zG, zH, zI, rowS, ret, id_eq]
  repeat (first
    | refine qv rfl (qp rfl) rfl rfl ?_ | refine TL_nil ?_ | refine T_seq ?_ | refine T_region ?_ | refine T_ret ?_ | refine E_then ?_ | refine E_thenR ?_)
  exact E_retc1 (i := 0) rfl rfl rfl rfl fun w hm => hm.ret
/-- kids that were put into a list -/
def kidO (g : Nat) (l : List (List Value)) : Own := blkO g l.flatten.toArray 44
def starS (cs : List Value) : Spec Nat := ⟨fun _ => True, fun g => rexV 6 C4.zero (.slice (some ⟨g, 0, none⟩) 1 1), fun g => [kidO g [cs]]⟩
def twoS (k : Int) (cs cs' : List Value) : Spec Nat := ⟨fun _ => True, fun g => rexV k C4.zero (.slice (some ⟨g, 0, none⟩) 2 2), fun g => [kidO g [cs, cs']]⟩
theorem star_calls (k : Int) (c : C4) (b : Option Addr) (l cap : Nat) (w : World) : Calls Tryd.prog 26 #[rexV k c (.slice b l cap)] w (Meets (starS (rexC k c (.slice b l cap))) w) := by
  refine enter (args := [rexV k c (.slice b l cap)]) (n := 6) Tryd.func26 rfl rfl rfl ?_
  refine T_seq (T_region (TL_box rfl rfl rfl fun g1 => TL_new rfl fun g2 => ?_))
  conv => arg 8; simp only [zA, zB, zC, zD, zE, zF, zG, zH, zI, rowS, ret, id_eq]
  repeat (first
    | refine TL_nil ?_ | refine T_seq ?_ | refine T_region ?_ | refine T_ret ?_ | refine E_then ?_ | refine E_thenR ?_
    | refine qv rfl (rr_loadB (i := 0) TyC.ty rfl rfl rfl) rfl rfl ?_)
  refine TL_one (cs := [rexC k c (.slice b l cap)].flatten.toArray) rfl rfl rfl rfl rfl fun g4 => ?_
  conv => arg 8; simp only [zA, zB, zC, zD, zE, zF, zG, zH, zI, rowS, ret, id_eq]
  repeat (first
    | refine TL_nil ?_ | refine T_seq ?_ | refine T_region ?_ | refine T_ret ?_ | refine E_then ?_ | refine E_thenR ?_
    | refine qv rfl (rr_build rfl (build_rexN 6 g4 1)) rfl rfl ?_)
  refine TL_storeB (i := 1) (cs' := (rexC 6 C4.zero (.slice (some ⟨g4, 0, none⟩) 1 1)).toArray) rfl rfl rfl rfl rfl rfl ?_
  conv => arg 8; simp only [zA, zB, zC, zD, zE, zF, zG, zH, zI, rowS, ret, id_eq]
  repeat (first
    | refine TL_nil ?_ | refine T_seq ?_ | refine T_region ?_ | refine T_ret ?_ | refine E_then ?_ | refine E_thenR ?_)
  refine E_retc1 (i := 1) rfl rfl rfl rfl fun w hm => ?_
  exact hm.meets (S := starS (rexC k c (.slice b l cap))) g4 trivial [2] (by decide) rfl
theorem two_calls (q k k' : Int) (c c' : C4) (b b' : Option Addr) (l l' cap cap' : Nat) (w : World) : Calls Tryd.prog 28 #[.int .i64 q, rexV k c (.slice b l cap), rexV k' c' (.slice b' l' cap')] w (Meets (twoS q (rexC k c (.slice b l cap)) (rexC k' c' (.slice b' l' cap'))) w) := by
  refine enter (args := [.int .i64 q, rexV k c (.slice b l cap), rexV k' c' (.slice b' l' cap')]) (n := 12) Tryd.func28 rfl rfl rfl ?_
  refine T_seq (T_region (TL_box rfl rfl rfl fun g4 => TL_box rfl rfl rfl fun g5 => TL_new rfl fun g6 => ?_))
  conv => arg 8; simp only [zA, zB, zC, zD, zE, zF, zG, zH, zI, rowS, ret, id_eq]
  repeat (first
    | refine qv rfl (qp rfl) rfl rfl ?_ | refine TL_nil ?_ | refine T_seq ?_ | refine T_region ?_ | refine T_ret ?_ | refine E_then ?_ | refine E_thenR ?_
    | refine qv rfl (rr_loadB (i := 0) TyC.ty rfl rfl rfl) rfl rfl ?_ | refine qv rfl (rr_loadB (i := 1) TyC.ty rfl rfl rfl) rfl rfl ?_)
  refine TL_litN (cs := [rexC k c (.slice b l cap), rexC k' c' (.slice b' l' cap')].flatten.toArray) [rexV k c (.slice b l cap), rexV k' c' (.slice b' l' cap')] rfl rfl rfl (by intro v hv; simp only [List.mem_cons, List.not_mem_nil, or_false] at hv; rcases hv with rfl | rfl <;> rfl) rfl rfl rfl fun g10 => ?_
  conv => arg 8; simp only [zA, zB, zC, zD, zE, zF, zG, zH, zI, rowS, ret, id_eq]
  repeat (first
    | refine qv rfl (qp rfl) rfl rfl ?_ | refine TL_nil ?_ | refine T_seq ?_ | refine T_region ?_ | refine T_ret ?_ | refine E_then ?_ | refine E_thenR ?_
    | refine qv rfl (rr_build rfl (build_rexN q g10 2)) rfl rfl ?_)
  refine TL_storeB (i := 2) (cs' := (rexC q C4.zero (.slice (some ⟨g10, 0, none⟩) 2 2)).toArray) rfl rfl rfl rfl rfl rfl ?_
  conv => arg 8; simp only [zA, zB, zC, zD, zE, zF, zG, zH, zI, rowS, ret, id_eq]
  repeat (first
    | refine qv rfl (qp rfl) rfl rfl ?_ | refine TL_nil ?_ | refine T_seq ?_ | refine T_region ?_ | refine T_ret ?_ | refine E_then ?_ | refine E_thenR ?_)
  refine E_retc1 (i := 2) rfl rfl rfl rfl fun w hm => ?_
  exact hm.meets (S := twoS q (rexC k c (.slice b l cap)) (rexC k' c' (.slice b' l' cap'))) g10 trivial [3] (by decide) rfl
/-- what was put together can be read -/
theorem kids_rex {w : World} {g : Nat} {k : Int} {l : List (Int × C4 × Value × Rx)} (hk : kit.okI64 k) (h : (kidO g (l.map fun x => rexC x.1 x.2.1 x.2.2.1)).holds w) (hl : l.length ≤ 2) (hr : ∀ x ∈ l, RexIs (Low w) w (rexC x.1 x.2.1 x.2.2.1) x.2.2.2) :
    RexR (Low w) w (rexV k C4.zero (.slice (some ⟨g, 0, none⟩) l.length l.length)) (.mk k C4.zero (l.map fun x => x.2.2.2)) := by
  have hb : w.heap[g]? = some (.cells (l.map fun x => rexC x.1 x.2.1 x.2.2.1).flatten.toArray 44 (0, 0)) := h
  refine ⟨_, rfl, hk, some ⟨g, 0, none⟩, l.length, by show Value.slice _ l.length _ = _; rw [show (Rx.mk k C4.zero (l.map fun x => x.2.2.2)).kids.length = l.length from List.length_map ..], by rw [show (Rx.mk k C4.zero (l.map fun x => x.2.2.2)).kids.length = l.length from List.length_map ..]; exact Nat.le_refl _, by unfold maxLen; omega, fun _ => ⟨g, 0, rfl, (Array.getElem?_eq_some_iff.1 hb).1, fun i hi => ?_⟩⟩
  have hi' : i < l.length := by have : i < (l.map fun x => x.2.2.2).length := hi; simpa using this
  refine ⟨rexC l[i].1 l[i].2.1 l[i].2.2.1, ?_, fun j u hj => ?_⟩
  · have e : (Rx.mk k C4.zero (l.map fun x => x.2.2.2)).kids[i] = l[i].2.2.2 := by exact List.getElem_map (h := by simpa using hi') ..
    rw [e]
    exact hr l[i] (List.getElem_mem hi')
  · rw [cell_of_row w g _ _ _ _ hb, List.getElem?_toArray, Nat.zero_add]
    have hj6 : j < 6 := by have := (List.getElem?_eq_some_iff.1 hj).1; simpa [rexC, clsL] using this
    have := flatten_get (c := 6) (l.map fun x => rexC x.1 x.2.1 x.2.2.1) (fun x hx => by obtain ⟨y, _, rfl⟩ := List.mem_map.1 hx; rfl) i j (by simpa using hi') hj6
    show (l.map fun x => rexC x.1 x.2.1 x.2.2.1).flatten[i * 6 + j]? = some u
    rw [this, List.getElem_map]; exact hj
end Go.Proofs.YtbiacehgfmgfdaaDoor.eng
