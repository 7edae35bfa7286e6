/- What count.Only computes. -/
import Derived.Test.YtnicebdkejkieaaCountE
import Derived.Test.YtnicebdkejkieaaCountY
namespace Go.Proofs.Ytnicebdkejkieaa.eng
open Go.RowKit kit mix gramL treeL countL
def OnlyOk (g : Gram) (word : List Int) (t : Tree) (e : Int) : Prop :=
  if checkC g word ≠ 0 then e = checkC g word ∧ t = .mk 0 0 []
  else (treesN g word = 0 → e = 17 ∧ t = .mk 0 0 []) ∧ (treesN g word = 2 → e = 12 ∧ t = .mk 0 0 []) ∧
    (treesN g word = 1 → ((e = 0 ∧ checkT g t = 0 ∧ yieldT g.prods t = word) ∨ ((e = 2 ∨ e = 7) ∧ t = .mk 0 0 [])) ∧ ∀ t', checkT g t' = 0 → yieldT g.prods t' = word → e = 0 ∧ t = t')
theorem treeM_err (o : Sym → Nat → Nat → Nat) (l : List gramL.Prod) : ∀ (f : Nat) (x : Sym) (a b k : Nat), (treeM o l f x a b k).2.1 = 0 ∨ (((treeM o l f x a b k).2.1 = 2 ∨ (treeM o l f x a b k).2.1 = 7) ∧ (treeM o l f x a b k).1 = .mk 0 0 [])
  | 0, x, a, b, k => by
    rw [treeM]
    dsimp only
    split <;> simp
  | f + 1, x, a, b, k => by
    have hk : ∀ (body : List Sym) (a k : Nat), (kidsM o (treeM o l f) b body a k).2.1 = 0 ∨ (kidsM o (treeM o l f) b body a k).2.1 = 2 ∨ (kidsM o (treeM o l f) b body a k).2.1 = 7 := by
      intro body
      induction body with
      | nil => intro a k; exact .inl rfl
      | cons y r ih =>
        intro a k
        rw [kidsM]
        have h1 := treeM_err o l f y a (midM (cutB o y r a b) a (b - a)) k
        split
        · exact h1.imp id fun h => h.1
        · exact ih _ _
    rw [treeM]
    split
    · exact .inr ⟨.inl rfl, rfl⟩
    · split
      · exact .inl rfl
      · have h1 := hk (prodAt l (bestP o l x a b l.length : Nat)).2 a (k + 1)
        split
        · rename_i c
          exact .inr ⟨h1.resolve_left c, rfl⟩
        · exact h1.imp id fun h => (by rename_i c; exact absurd (by rcases h with h | h <;> omega) c)
theorem treeM_len (o : Sym → Nat → Nat → Nat) (l : List gramL.Prod) (f : Nat) (x : Sym) (a b k : Nat) (hx : x.1 ≠ 1) (h : (treeM o l f x a b k).2.1 = 0) : 0 ≤ (treeM o l f x a b k).1.prod := by
  cases f with
  | zero => rw [treeM]; exact Int.le_refl _
  | succ f =>
    rw [treeM]
    split
    · exact Int.le_refl _
    · first | rw [if_neg hx] | skip
      split
      · exact Int.le_refl _
      · show (0 : Int) ≤ ((bestP o l x a b l.length : Nat) : Int); omega
/-- what is told of one tree -/
theorem only_ok {g : Gram} {word : List Int} {c : Chart} (hck : checkC g word = 0) (hc : Lfp word g.prods g.nons.toNat c) (h1 : treesN g word = 1) :
    OnlyOk g word (treeM (oneF c word) g.prods 100 (2, 0) 0 word.length 0).1 (treeM (oneF c word) g.prods 100 (2, 0) 0 word.length 0).2.1 := by
  obtain ⟨hg, hl, hw⟩ := checkC_ok hck
  obtain ⟨a1, a2, a3, a4, a5, a6⟩ := checkG_ok hg
  have hs := symsOk_of (n := g.nons.toNat) hg (by omega)
  have hN := treesN_eq hck hc
  have ho : oneF c word (2, 0) 0 word.length = 1 := by
    unfold oneF
    rw [if_pos rfl]
    simpa using hN.trans h1
  have herr := treeM_err (oneF c word) g.prods 100 (2, 0) 0 word.length 0
  have hok := treeM_ok hc hs 100 (2, 0) 0 word.length 0
  unfold OnlyOk
  rw [if_neg (by simpa using hck)]
  refine ⟨fun h => by omega, fun h => by omega, fun _ => ⟨?_, fun t' ht hy => ?_⟩⟩
  · rcases herr with h | h
    · refine .inl ⟨h, ?_⟩
      have hp := treeM_len (oneF c word) g.prods 100 (2, 0) 0 word.length 0 (by decide) h
      generalize treeM (oneF c word) g.prods 100 (2, 0) 0 word.length 0 = R at *
      obtain ⟨t, e, k1⟩ := R
      dsimp only at h hp ⊢
      subst h
      obtain ⟨r1, r2, r3, r4, r5, r6⟩ := hok t k1 (.inr ⟨rfl, by dsimp only; omega, by dsimp only; omega⟩) (Nat.zero_le _) (Nat.le_refl _) (by omega) rfl
      refine ⟨checkT_iff.2 ⟨hg, r1, by omega, r4⟩, ?_⟩
      unfold yieldX at r6
      rw [if_neg (by omega)] at r6
      simpa using r6
    · exact .inr h
  · obtain ⟨b1, b2, b3, b4⟩ := checkT_iff.1 ht
    have hp := right_prod b2
    have := treeM_of hc hs 100 t' (2, 0) 0 word.length 0 0 b2 (.inr rfl) (Nat.zero_le _) (Nat.le_refl _) (by omega) (by unfold yieldX; rw [if_neg (by omega), hy]; simp) (by omega) b4 rfl
    rw [this]
    exact ⟨rfl, rfl⟩
def onlyS (g : Gram) (word : List Int) : Spec (Tree × Int × Value × (Nat → Prop)) :=
  ⟨fun x => OnlyOk g word x.1 x.2.1 ∧ kit.okI64 x.1.prod ∧ kit.okI64 x.1.tok, fun x => .tuple #[treeV x.1.prod x.1.tok x.2.2.1, .int .i64 x.2.1], fun x => [kidsO x.2.2.2 x.2.2.1 x.1.kids]⟩
attribute [local irreducible] Instr.build in
set_option maxHeartbeats 4000000 in
theorem only_calls (v vw : Value) (g : Gram) (word : List Int) (w : World) (h : GraR (fun k => k < w.heap.size) w v g) (hs : Sl w vw word.length (word.map (.int .i64))) :
    Calls Try.prog 51 #[v, vw] w (Meets (onlyS g word) w) := by
  have hck := fun w' (hg : Gr w w') => checkC_calls v vw g word w' (h.gr hg) (hs.gr hg)
  by_cases c0 : checkC g word = 0
  · have h0 := h
    obtain ⟨vp, rfl, h1, _⟩ := h
    have hfi := fun w' (hg : Gr w w') => filled_calls vp vw g word w' (h0.gr hg) (hs.gr hg) c0
    have hN := fun (c : Chart) hc => treesN_eq (c := c) c0 hc
    have hO := fun (c : Chart) hc => only_ok (c := c) c0 hc
    have hX : ∀ e, (treesN g word = 0 → e = 17) → (treesN g word = 2 → e = 12) → treesN g word ≠ 1 → OnlyOk g word (.mk 0 0 []) e := fun e e1 e2 e3 => by
      unfold OnlyOk
      rw [if_neg (by simpa using c0)]
      exact ⟨fun h => ⟨e1 h, rfl⟩, fun h => ⟨e2 h, rfl⟩, fun h => absurd h e3⟩
    obtain ⟨hg, hl, hw⟩ := checkC_ok c0
    obtain ⟨a1, a2, a3, a4, a5, a6⟩ := checkG_ok hg
    obtain ⟨n, hn⟩ : ∃ n : Nat, g.nons = n := ⟨g.nons.toNat, by omega⟩
    obtain ⟨f1, f2⟩ := fineC_of hg hn
    have hsy := symsOk_of (n := n) hg hn
    have h8 : ∀ p ∈ g.prods, p.2.length ≤ 8 := fun p hp => (a6 p hp).1
    rw [c0] at hck
    have hs0 := hs
    have hle : treesN g word ≤ 2 := by
      unfold treesN
      rw [if_pos c0]
      have hnn : g.nons.toNat = n := by omega
      rw [hnn]
      exact (chartOf_lfp f2).le2 _
    have hc3 : treesN g word = 0 ∨ treesN g word = 1 ∨ treesN g word = 2 := by omega
    obtain ⟨t, nn, prods⟩ := g
    dsimp only at *
    subst hn
    have htr := fun gc gm c Bd (hc : Lfp word prods n c) hpos gn w' B => treeC_calls w gc gm n t vp vw word prods c Bd h1 hs0 f1 hsy hc hl a5 h8 100 1 (2, 0) 0 word.length 0 gn w' B rfl (.inr ⟨rfl, by dsimp only; omega, by dsimp only; omega⟩) ⟨by decide, by decide⟩ (Nat.zero_le _) (Nat.le_refl _) (by omega) hpos
    obtain ⟨bw, cw, rfl, hw1, hw2, _⟩ := hs
    refine enter (args := [graV t (n : Int) vp, .slice bw word.length cw]) (n := 40) Try.func51 rfl rfl rfl ?_
    refine T_seq (T_region (TL_box rfl rfl rfl fun g2 => TL_new rfl fun g4 => ?_))
    conv => arg 8; simp only [zA, zB, zC, zD, zE, zF, zG, zH, zI, rowS, ret, id_eq]
    repeat (first
      | refine qv rfl (qp rfl) rfl rfl ?_ | refine TL_nil ?_ | refine T_seq ?_ | refine T_region ?_ | refine qcT rfl ?_ | refine qcF rfl ?_ | refine T_skip ?_
      | refine T_ret ?_ | refine T_block ?_ | refine E_then ?_ | refine E_thenR ?_ | refine E_blockN ?_ | refine E_blockR ?_
      | refine qv rfl (rr_loadB (i := 0) TyC.ty rfl rfl rfl) rfl rfl ?_ | refine qv rfl (qlen Und.eq rfl) rfl rfl ?_
      | refine qv rfl (qfld FldC.fld rfl rfl) rfl rfl ?_ | refine qv rfl (rr_nilc rfl) rfl rfl ?_ | refine qv rfl (rr_eql rfl rfl (qT (by omega))) rfl rfl ?_
      | refine qv rfl (rr_eql rfl rfl (qF (by omega))) rfl rfl ?_ | refine qv rfl (rr_neq rfl rfl (qT (by omega))) rfl rfl ?_
      | refine qv rfl (rr_neq rfl rfl (qF (by omega))) rfl rfl ?_)
    refine TL_call (he2 EntersC.en rfl rfl rfl) (fun w hm => hck _ hm.below) rfl rfl rfl ?_
    intro _ _
    conv => arg 8; simp only [zA, zB, zC, zD, zE, zF, zG, zH, zI, rowS, ret, id_eq]
    repeat (first
      | refine qv rfl (qp rfl) rfl rfl ?_ | refine TL_nil ?_ | refine T_seq ?_ | refine T_region ?_ | refine qcT rfl ?_ | refine qcF rfl ?_ | refine T_skip ?_
      | refine T_ret ?_ | refine T_block ?_ | refine E_then ?_ | refine E_thenR ?_ | refine E_blockN ?_ | refine E_blockR ?_
      | refine qv rfl (rr_loadB (i := 0) TyC.ty rfl rfl rfl) rfl rfl ?_ | refine qv rfl (qlen Und.eq rfl) rfl rfl ?_
      | refine qv rfl (qfld FldC.fld rfl rfl) rfl rfl ?_ | refine qv rfl (rr_nilc rfl) rfl rfl ?_ | refine qv rfl (rr_eql rfl rfl (qT (by omega))) rfl rfl ?_
      | refine qv rfl (rr_eql rfl rfl (qF (by omega))) rfl rfl ?_ | refine qv rfl (rr_neq rfl rfl (qT (by omega))) rfl rfl ?_
      | refine qv rfl (rr_neq rfl rfl (qF (by omega))) rfl rfl ?_)
    refine TL_call (he2 EntersC.en rfl rfl rfl) (fun w' hm => hfi w' hm.below) rfl rfl rfl ?_
    rintro ⟨gc, gm, c, Bd⟩ ⟨hx, _⟩
    dsimp only at hx
    have hN := hN c hx
    have hO := hO c hx
    have htr := htr gc gm c Bd hx
    clear hfi hck
    conv => arg 8; simp only [zA, zB, zC, zD, zE, zF, zG, zH, zI, rowS, ret, id_eq, filledS]
    repeat (first
      | refine qv rfl (qp rfl) rfl rfl ?_ | refine TL_nil ?_ | refine T_seq ?_ | refine T_region ?_ | refine qcT rfl ?_ | refine qcF rfl ?_ | refine T_skip ?_
      | refine T_ret ?_ | refine T_block ?_ | refine E_then ?_ | refine E_thenR ?_ | refine E_blockN ?_ | refine E_blockR ?_
      | refine qv rfl (qlen Und.eq rfl) rfl rfl ?_ | refine qv rfl (qfld FldC.fld rfl rfl) rfl rfl ?_ | refine qv rfl (rr_nilc rfl) rfl rfl ?_
      | refine qv rfl (rr_eql rfl rfl (qT (by omega))) rfl rfl ?_ | refine qv rfl (rr_eql rfl rfl (qF (by omega))) rfl rfl ?_
      | refine qv rfl (rr_neq rfl rfl (qT (by omega))) rfl rfl ?_ | refine qv rfl (rr_neq rfl rfl (qF (by omega))) rfl rfl ?_)
    refine TL_new rfl fun g8 => ?_
    refine TL_store1 (i := 4) rfl rfl rfl rfl rfl rfl ?_
    rw [show (#[.int .i64 0] : Array Value).setIfInBounds 0 (.int .i64 0) = #[.int .i64 ((0 : Nat) : Int)] from rfl]
    conv => arg 8; simp only [zA, zB, zC, zD, zE, zF, zG, zH, zI, rowS, ret, id_eq]
    repeat (first
      | refine qv rfl (qp rfl) rfl rfl ?_ | refine TL_nil ?_ | refine T_seq ?_ | refine T_region ?_ | refine qcT rfl ?_ | refine qcF rfl ?_ | refine T_skip ?_
      | refine T_ret ?_ | refine T_block ?_ | refine E_then ?_ | refine E_thenR ?_ | refine E_blockN ?_ | refine E_blockR ?_
      | refine qv rfl (rr_load1 TyC.ty rfl (at_blk (i := 2) rfl rfl)) rfl rfl ?_ | refine qv rfl (rr_build rfl (build_span _ _ _)) rfl rfl ?_
      | refine qv rfl (rr_lookT (x := (0, 0, (word.length : Int))) (i := 3) spanK Und.eq zero_int rfl rfl rfl (span_ok (m := 0) (a := 0) ⟨by decide, by decide⟩ (by omega) (by omega)) (by rw [hN])) rfl rfl ?_
      | refine qv rfl (qlen Und.eq rfl) rfl rfl ?_ | refine qv rfl (qfld FldC.fld rfl rfl) rfl rfl ?_ | refine qv rfl (rr_nilc rfl) rfl rfl ?_
      | refine qv rfl (rr_eql rfl rfl (qT (by omega))) rfl rfl ?_ | refine qv rfl (rr_eql rfl rfl (qF (by omega))) rfl rfl ?_
      | refine qv rfl (rr_neq rfl rfl (qT (by omega))) rfl rfl ?_ | refine qv rfl (rr_neq rfl rfl (qF (by omega))) rfl rfl ?_)
    rcases hc3 with h3 | h3 | h3
    · rw [h3]
      repeat (first
        | refine qv rfl (qp rfl) rfl rfl ?_ | refine TL_nil ?_ | refine T_seq ?_ | refine T_region ?_ | refine qcT rfl ?_ | refine qcF rfl ?_ | refine T_skip ?_
        | refine T_ret ?_ | refine T_block ?_ | refine E_then ?_ | refine E_thenR ?_ | refine E_blockN ?_ | refine E_blockR ?_
        | refine qv rfl (rr_build rfl build_tree0) rfl rfl ?_ | refine qv rfl (qlen Und.eq rfl) rfl rfl ?_ | refine qv rfl (qfld FldC.fld rfl rfl) rfl rfl ?_
        | refine qv rfl (rr_nilc rfl) rfl rfl ?_ | refine qv rfl (rr_eql rfl rfl (qT (by omega))) rfl rfl ?_
        | refine qv rfl (rr_eql rfl rfl (qF (by omega))) rfl rfl ?_ | refine qv rfl (rr_neq rfl rfl (qT (by omega))) rfl rfl ?_
        | refine qv rfl (rr_neq rfl rfl (qF (by omega))) rfl rfl ?_)
      refine TL_storeB (i := 1) rfl rfl rfl rfl rfl rfl ?_
      conv => arg 8; simp only [zA, zB, zC, zD, zE, zF, zG, zH, zI, rowS, ret, id_eq]
      repeat (first
        | refine qv rfl (qp rfl) rfl rfl ?_ | refine TL_nil ?_ | refine T_seq ?_ | refine T_region ?_ | refine qcT rfl ?_ | refine qcF rfl ?_ | refine T_skip ?_
        | refine T_ret ?_ | refine T_block ?_ | refine E_then ?_ | refine E_thenR ?_ | refine E_blockN ?_ | refine E_blockR ?_
        | refine qv rfl (qlen Und.eq rfl) rfl rfl ?_ | refine qv rfl (qfld FldC.fld rfl rfl) rfl rfl ?_ | refine qv rfl (rr_nilc rfl) rfl rfl ?_
        | refine qv rfl (rr_eql rfl rfl (qT (by omega))) rfl rfl ?_ | refine qv rfl (rr_eql rfl rfl (qF (by omega))) rfl rfl ?_
        | refine qv rfl (rr_neq rfl rfl (qT (by omega))) rfl rfl ?_ | refine qv rfl (rr_neq rfl rfl (qF (by omega))) rfl rfl ?_)
      refine E_extra (kidsO (fun _ => False) (.slice none 0 0) []) (fun k hk => hk.elim (fun h => by cases h) id) kidsO_nil ?_
      exact E_retc2 (i := 1) rfl rfl rfl rfl rfl fun w hm => hm.meets (S := onlyS ⟨t, (n : Int), prods⟩ word) (.mk 0 0 [], 17, .slice none 0 0, fun _ => False) ⟨hX 17 (fun _ => rfl) (fun h => by omega) (by omega), okz, okz⟩ [5] (by decide) rfl
    · rw [h3]
      have hpos : 0 < oneF c word (2, 0) 0 word.length := by
        unfold oneF
        rw [if_pos rfl]
        have : c (0, 0, (word.length : Int)) = 1 := hN.trans h3
        show 0 < c (0, ((0 : Nat) : Int), (word.length : Int))
        rw [show ((0 : Nat) : Int) = 0 from rfl, this]; decide
      have htr := htr hpos
      have hO := hO h3
      generalize treeM (oneF c word) prods 100 (2, 0) 0 word.length 0 = R at *
      obtain ⟨⟨p, q, ks⟩, e, k2⟩ := R
      simp only [trS_mk] at htr
      dsimp only at hO
      repeat (first
        | refine qv rfl (qp rfl) rfl rfl ?_ | refine TL_nil ?_ | refine T_seq ?_ | refine T_region ?_ | refine qcT rfl ?_ | refine qcF rfl ?_ | refine T_skip ?_
        | refine T_ret ?_ | refine T_block ?_ | refine E_then ?_ | refine E_thenR ?_ | refine E_blockN ?_ | refine E_blockR ?_
        | refine qv rfl (rr_build rfl build_sym2) rfl rfl ?_ | refine qv rfl (qlen Und.eq rfl) rfl rfl ?_ | refine qv rfl (qfld FldC.fld rfl rfl) rfl rfl ?_
        | refine qv rfl (rr_nilc rfl) rfl rfl ?_ | refine qv rfl (rr_eql rfl rfl (qT (by omega))) rfl rfl ?_
        | refine qv rfl (rr_eql rfl rfl (qF (by omega))) rfl rfl ?_ | refine qv rfl (rr_neq rfl rfl (qT (by omega))) rfl rfl ?_
        | refine qv rfl (rr_neq rfl rfl (qF (by omega))) rfl rfl ?_)
      refine TL_callB [2, 3, 4] [0, 1] (by decide) rfl rfl (he6 EntersC.en rfl rfl rfl rfl rfl rfl rfl) (fun w' hm hb => htr g8 w' _ ((Old.self w).on hm fun o h => pick_mem2 h) hb) rfl rfl rfl ?_
      rintro ⟨v', F'⟩ ⟨o1, o2⟩
      conv => arg 8; simp only [zA, zB, zC, zD, zE, zF, zG, zH, zI, rowS, ret, id_eq]
      refine TL_know (i := 5) (φ := v'.oneCell' = true ∧ v'.cells = #[v']) rfl (fun w h => kidsO_one h) fun hvm => ?_
      repeat (first
        | refine qv rfl (qp rfl) rfl rfl ?_ | refine TL_nil ?_ | refine T_seq ?_ | refine T_region ?_ | refine qcT rfl ?_ | refine qcF rfl ?_ | refine T_skip ?_
        | refine T_ret ?_ | refine T_block ?_ | refine E_then ?_ | refine E_thenR ?_ | refine E_blockN ?_ | refine E_blockR ?_
        | refine qv rfl (qlen Und.eq rfl) rfl rfl ?_ | refine qv rfl (qfld FldC.fld rfl rfl) rfl rfl ?_ | refine qv rfl (rr_nilc rfl) rfl rfl ?_
        | refine qv rfl (rr_eql rfl rfl (qT (by omega))) rfl rfl ?_ | refine qv rfl (rr_eql rfl rfl (qF (by omega))) rfl rfl ?_
        | refine qv rfl (rr_neq rfl rfl (qT (by omega))) rfl rfl ?_ | refine qv rfl (rr_neq rfl rfl (qF (by omega))) rfl rfl ?_)
      refine TL_storeB (i := 1) rfl rfl rfl rfl (by simp [treeV, Value.cells, hvm.1]; exact ⟨rfl, rfl⟩) rfl ?_
      conv => arg 8; simp only [zA, zB, zC, zD, zE, zF, zG, zH, zI, rowS, ret, id_eq]
      repeat (first
        | refine qv rfl (qp rfl) rfl rfl ?_ | refine TL_nil ?_ | refine T_seq ?_ | refine T_region ?_ | refine qcT rfl ?_ | refine qcF rfl ?_ | refine T_skip ?_
        | refine T_ret ?_ | refine T_block ?_ | refine E_then ?_ | refine E_thenR ?_ | refine E_blockN ?_ | refine E_blockR ?_
        | refine qv rfl (qlen Und.eq rfl) rfl rfl ?_ | refine qv rfl (qfld FldC.fld rfl rfl) rfl rfl ?_ | refine qv rfl (rr_nilc rfl) rfl rfl ?_
        | refine qv rfl (rr_eql rfl rfl (qT (by omega))) rfl rfl ?_ | refine qv rfl (rr_eql rfl rfl (qF (by omega))) rfl rfl ?_
        | refine qv rfl (rr_neq rfl rfl (qT (by omega))) rfl rfl ?_ | refine qv rfl (rr_neq rfl rfl (qF (by omega))) rfl rfl ?_)
      exact E_retc2 (i := 1) rfl rfl rfl rfl rfl fun w hm => hm.meets (S := onlyS ⟨t, (n : Int), prods⟩ word) (.mk p q ks, e, v', F') ⟨hO, o1, o2⟩ [5] (by decide) rfl
    · rw [h3]
      repeat (first
        | refine qv rfl (qp rfl) rfl rfl ?_ | refine TL_nil ?_ | refine T_seq ?_ | refine T_region ?_ | refine qcT rfl ?_ | refine qcF rfl ?_ | refine T_skip ?_
        | refine T_ret ?_ | refine T_block ?_ | refine E_then ?_ | refine E_thenR ?_ | refine E_blockN ?_ | refine E_blockR ?_
        | refine qv rfl (rr_build rfl build_tree0) rfl rfl ?_ | refine qv rfl (qlen Und.eq rfl) rfl rfl ?_ | refine qv rfl (qfld FldC.fld rfl rfl) rfl rfl ?_
        | refine qv rfl (rr_nilc rfl) rfl rfl ?_ | refine qv rfl (rr_eql rfl rfl (qT (by omega))) rfl rfl ?_
        | refine qv rfl (rr_eql rfl rfl (qF (by omega))) rfl rfl ?_ | refine qv rfl (rr_neq rfl rfl (qT (by omega))) rfl rfl ?_
        | refine qv rfl (rr_neq rfl rfl (qF (by omega))) rfl rfl ?_)
      refine TL_storeB (i := 1) rfl rfl rfl rfl rfl rfl ?_
      conv => arg 8; simp only [zA, zB, zC, zD, zE, zF, zG, zH, zI, rowS, ret, id_eq]
      repeat (first
        | refine qv rfl (qp rfl) rfl rfl ?_ | refine TL_nil ?_ | refine T_seq ?_ | refine T_region ?_ | refine qcT rfl ?_ | refine qcF rfl ?_ | refine T_skip ?_
        | refine T_ret ?_ | refine T_block ?_ | refine E_then ?_ | refine E_thenR ?_ | refine E_blockN ?_ | refine E_blockR ?_
        | refine qv rfl (qlen Und.eq rfl) rfl rfl ?_ | refine qv rfl (qfld FldC.fld rfl rfl) rfl rfl ?_ | refine qv rfl (rr_nilc rfl) rfl rfl ?_
        | refine qv rfl (rr_eql rfl rfl (qT (by omega))) rfl rfl ?_ | refine qv rfl (rr_eql rfl rfl (qF (by omega))) rfl rfl ?_
        | refine qv rfl (rr_neq rfl rfl (qT (by omega))) rfl rfl ?_ | refine qv rfl (rr_neq rfl rfl (qF (by omega))) rfl rfl ?_)
      refine E_extra (kidsO (fun _ => False) (.slice none 0 0) []) (fun k hk => hk.elim (fun h => by cases h) id) kidsO_nil ?_
      exact E_retc2 (i := 1) rfl rfl rfl rfl rfl fun w hm => hm.meets (S := onlyS ⟨t, (n : Int), prods⟩ word) (.mk 0 0 [], 12, .slice none 0 0, fun _ => False) ⟨hX 12 (fun h => by omega) (fun _ => rfl) (by omega), okz, okz⟩ [5] (by decide) rfl
  · have hX : OnlyOk g word (.mk 0 0 []) (checkC g word) := by
      unfold OnlyOk
      rw [if_pos c0]
      exact ⟨rfl, rfl⟩
    obtain ⟨vp, rfl, h1, _⟩ := h
    obtain ⟨bw, cw, rfl, _⟩ := hs
    generalize checkC g word = e at *
    obtain ⟨t, n, prods⟩ := g
    dsimp only at *
    refine enter (args := [graV t n vp, .slice bw word.length cw]) (n := 40) Try.func51 rfl rfl rfl ?_
    refine T_seq (T_region (TL_box rfl rfl rfl fun g2 => TL_new rfl fun g4 => ?_))
    conv => arg 8; simp only [zA, zB, zC, zD, zE, zF, zG, zH, zI, rowS, ret, id_eq]
    repeat (first
      | refine qv rfl (qp rfl) rfl rfl ?_ | refine TL_nil ?_ | refine T_seq ?_ | refine T_region ?_ | refine qcT rfl ?_ | refine qcF rfl ?_ | refine T_skip ?_
      | refine T_ret ?_ | refine T_block ?_ | refine E_then ?_ | refine E_thenR ?_ | refine E_blockN ?_ | refine E_blockR ?_
      | refine qv rfl (rr_loadB (i := 0) TyC.ty rfl rfl rfl) rfl rfl ?_ | refine qv rfl (qlen Und.eq rfl) rfl rfl ?_
      | refine qv rfl (qfld FldC.fld rfl rfl) rfl rfl ?_ | refine qv rfl (rr_nilc rfl) rfl rfl ?_ | refine qv rfl (rr_eql rfl rfl (qT (by omega))) rfl rfl ?_
      | refine qv rfl (rr_eql rfl rfl (qF (by omega))) rfl rfl ?_ | refine qv rfl (rr_neq rfl rfl (qT (by omega))) rfl rfl ?_
      | refine qv rfl (rr_neq rfl rfl (qF (by omega))) rfl rfl ?_)
    refine TL_call (he2 EntersC.en rfl rfl rfl) (fun w hm => hck _ hm.below) rfl rfl rfl ?_
    intro _ _
    conv => arg 8; simp only [zA, zB, zC, zD, zE, zF, zG, zH, zI, rowS, ret, id_eq]
    repeat (first
      | refine qv rfl (qp rfl) rfl rfl ?_ | refine TL_nil ?_ | refine T_seq ?_ | refine T_region ?_ | refine qcT rfl ?_ | refine qcF rfl ?_ | refine T_skip ?_
      | refine T_ret ?_ | refine T_block ?_ | refine E_then ?_ | refine E_thenR ?_ | refine E_blockN ?_ | refine E_blockR ?_
      | refine qv rfl (rr_build rfl build_tree0) rfl rfl ?_ | refine qv rfl (qlen Und.eq rfl) rfl rfl ?_ | refine qv rfl (qfld FldC.fld rfl rfl) rfl rfl ?_
      | refine qv rfl (rr_nilc rfl) rfl rfl ?_ | refine qv rfl (rr_eql rfl rfl (qT (by omega))) rfl rfl ?_
      | refine qv rfl (rr_eql rfl rfl (qF (by omega))) rfl rfl ?_ | refine qv rfl (rr_neq rfl rfl (qT (by omega))) rfl rfl ?_
      | refine qv rfl (rr_neq rfl rfl (qF (by omega))) rfl rfl ?_)
    refine TL_storeB (i := 1) rfl rfl rfl rfl rfl rfl ?_
    conv => arg 8; simp only [zA, zB, zC, zD, zE, zF, zG, zH, zI, rowS, ret, id_eq]
    repeat (first
      | refine qv rfl (qp rfl) rfl rfl ?_ | refine TL_nil ?_ | refine T_seq ?_ | refine T_region ?_ | refine qcT rfl ?_ | refine qcF rfl ?_ | refine T_skip ?_
      | refine T_ret ?_ | refine T_block ?_ | refine E_then ?_ | refine E_thenR ?_ | refine E_blockN ?_ | refine E_blockR ?_
      | refine qv rfl (qlen Und.eq rfl) rfl rfl ?_ | refine qv rfl (qfld FldC.fld rfl rfl) rfl rfl ?_ | refine qv rfl (rr_nilc rfl) rfl rfl ?_
      | refine qv rfl (rr_eql rfl rfl (qT (by omega))) rfl rfl ?_ | refine qv rfl (rr_eql rfl rfl (qF (by omega))) rfl rfl ?_
      | refine qv rfl (rr_neq rfl rfl (qT (by omega))) rfl rfl ?_ | refine qv rfl (rr_neq rfl rfl (qF (by omega))) rfl rfl ?_)
    refine E_extra (kidsO (fun _ => False) (.slice none 0 0) []) (fun k hk => hk.elim (fun h => by cases h) id) kidsO_nil ?_
    exact E_retc2 (i := 1) rfl rfl rfl rfl rfl fun w hm => hm.meets (S := onlyS ⟨t, n, prods⟩ word) (.mk 0 0 [], e, .slice none 0 0, fun _ => False) ⟨hX, okz, okz⟩ [2] (by decide) rfl
end Go.Proofs.Ytnicebdkejkieaa.eng
