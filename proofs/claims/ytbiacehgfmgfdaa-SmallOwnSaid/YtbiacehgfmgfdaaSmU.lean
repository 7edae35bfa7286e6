/- Two automata that tell the same have one smallest one; no program in sight. -/
import Derived.Test.YtbiacehgfmgfdaaSmM
namespace Go.Proofs.Ytbiacehgfmgfdaa.smallL
theorem idx_cons (a x : Nat) (T : List Nat) : idx (a :: T) x = if a = x then 0 else idx T x + 1 := by
  unfold idx
  rw [List.idxOf_cons]
  by_cases h : a = x
  · subst h; simp
  · have : (a == x) = false := by simpa using h
    rw [this, if_neg h]; rfl
theorem idx_par : ∀ {T T' : List Nat} {x x' : Nat}, T.length = T'.length → (∀ k, k < T.length → (T.getD k 0 = x ↔ T'.getD k 0 = x')) → idx T x = idx T' x'
  | [], [], _, _, _, _ => rfl
  | [], _ :: _, _, _, h, _ => by simp at h
  | _ :: _, [], _, _, h, _ => by simp at h
  | a :: T, a' :: T', x, x', hl, h => by
    have h0 : a = x ↔ a' = x' := h 0 (by simp)
    have ih := idx_par (T := T) (T' := T') (x := x) (x' := x') (by simpa using hl) fun k hk => h (k + 1) (by simpa using hk)
    rw [idx_cons, idx_cons, ih]
    by_cases c : a = x
    · rw [if_pos c, if_pos (h0.1 c)]
    · rw [if_neg c, if_neg fun e => c (h0.2 e)]
theorem mem_idx {T : List Nat} {x : Nat} : x ∈ T ↔ idx T x < T.length :=
  ⟨idx_lt, fun h => Classical.byContradiction fun hn => by rw [idx_none hn] at h; omega⟩
section
variable {A B : Aut}
def sameAB (A B : Aut) (q r : Int) : Prop := ∀ s, tg A (go A q s) = tg B (go B r s)
theorem sameAB.step {q r : Int} (h : sameAB A B q r) (b : Nat) (hb : b < 256) : sameAB A B (dt A q b) (dt B r b) := fun s => by
  have := h (UInt8.ofNat b :: s)
  have e : (UInt8.ofNat b).toNat = b := by simp; omega
  simp only [go, e] at this
  exact this
theorem tg_dead (s : List UInt8) : tg A (go A (-1) s) = -1 := by
  have := go_neg (A := A) s (show (-1 : Int) < 0 by decide)
  unfold tg; rw [if_pos this]
/-- states of both that tell the same have like blocks -/
theorem like_block (hA : A.Ok) (hB : B.Ok) {q q' r r' : Int} (sq : St A q) (sq' : St A q') (sr : St B r) (sr' : St B r') (h : sameAB A B q r) (h' : sameAB A B q' r') :
    val (blocksF A) q = val (blocksF A) q' ↔ val (blocksF B) r = val (blocksF B) r' := by
  rw [(blocks_of hA).same hA sq sq', (blocks_of hB).same hB sr sr']
  exact ⟨fun e s => by rw [← h s, ← h' s]; exact e s, fun e s => by rw [h s, h' s]; exact e s⟩
theorem like_dead (hA : A.Ok) (hB : B.Ok) {q r : Int} (sq : St A q) (sr : St B r) (h : sameAB A B q r) : val (blocksF A) q = 0 ↔ val (blocksF B) r = 0 := by
  have := like_block hA hB sq ⟨by omega, by omega⟩ sr ⟨by omega, by omega⟩ (q' := -1) (r' := -1) h fun s => by rw [tg_dead, tg_dead]
  have e : ∀ f, val f (-1) = 0 := fun f => rfl
  rwa [e, e] at this
structure Par (A B : Aut) (Q Q' : List Nat) : Prop where
  len : Q.length = Q'.length
  like : ∀ k, k < Q.length → sameAB A B (Q.getD k 0 : Nat) (Q'.getD k 0 : Nat)
  okA : QOk A (blocksF A) Q
  okB : QOk B (blocksF B) Q'
theorem getD_map (f : Nat → Nat) {Q : List Nat} {k : Nat} (h : k < Q.length) : (Q.map f).getD k 0 = f (Q.getD k 0) := by
  rw [List.getD_eq_getElem?_getD, List.getElem?_map, List.getD_eq_getElem?_getD, List.getElem?_eq_getElem h]; rfl
theorem nat_st (A : Aut) {q : Nat} (h : q < A.n) : St A (q : Int) := ⟨by omega, by omega⟩
theorem val_nat (f : Nat → Nat) (q : Nat) : val f (q : Int) = f q := by unfold val; rw [if_neg (by omega), Int.toNat_natCast]
theorem par_idx (hA : A.Ok) (hB : B.Ok) {Q Q' : List Nat} (h : Par A B Q Q') {q r : Int} (sq : St A q) (sr : St B r) (he : sameAB A B q r) : idx (Q.map (blocksF A)) (val (blocksF A) q) = idx (Q'.map (blocksF B)) (val (blocksF B) r) := by
  refine idx_par (by simpa using h.len) fun k hk => ?_
  have hk1 : k < Q.length := by simpa using hk
  have hk2 : k < Q'.length := by rw [← h.len]; exact hk1
  rw [getD_map _ hk1, getD_map _ hk2, ← val_nat (blocksF A), ← val_nat (blocksF B)]
  exact like_block hA hB (nat_st A (h.okA.lt _ (getD_mem hk1))) sq (nat_st B (h.okB.lt _ (getD_mem hk2))) sr (h.like k hk1) he
theorem par_step (hA : A.Ok) (hB : B.Ok) {Q Q' : List Nat} (h : Par A B Q Q') {q r : Int} (sq : St A q) (sr : St B r) (he : sameAB A B q r) :
    Par A B (stepQ (blocksF A) Q q).1 (stepQ (blocksF B) Q' r).1 ∧ (stepQ (blocksF A) Q q).2 = (stepQ (blocksF B) Q' r).2 := by
  have hd := like_dead hA hB sq sr he
  have h1 := qok_step h.okA sq
  have h2 := qok_step h.okB sr
  have hi := par_idx hA hB h sq sr he
  unfold stepQ at *
  by_cases c : val (blocksF A) q = 0
  · rw [if_pos c, if_pos (hd.1 c)]
    exact ⟨h, rfl⟩
  · have c' : ¬ val (blocksF B) r = 0 := fun e => c (hd.2 e)
    rw [if_neg c] at h1 ⊢
    rw [if_neg c'] at h2 ⊢
    have v1 : ∃ m : Nat, q = m := ⟨q.toNat, by unfold val at c; by_cases hq : q < 0; rw [if_pos hq] at c; exact absurd rfl c; omega⟩
    have v2 : ∃ m : Nat, r = m := ⟨r.toNat, by unfold val at c'; by_cases hq : r < 0; rw [if_pos hq] at c'; exact absurd rfl c'; omega⟩
    obtain ⟨m, rfl⟩ := v1
    obtain ⟨m', rfl⟩ := v2
    rw [val_nat, val_nat] at hi
    have hmem : blocksF A m ∈ Q.map (blocksF A) ↔ blocksF B m' ∈ Q'.map (blocksF B) := by
      rw [mem_idx, mem_idx, hi]; simp [h.len]
    have hp : Par A B (addQ (blocksF A) Q (m : Int)) (addQ (blocksF B) Q' (m' : Int)) := by
      refine ⟨?_, ?_, h1, h2⟩
      · unfold addQ
        rw [Int.toNat_natCast, Int.toNat_natCast]
        by_cases c2 : blocksF A m ∈ Q.map (blocksF A)
        · rw [if_pos c2, if_pos (hmem.1 c2)]; exact h.len
        · rw [if_neg c2, if_neg fun e => c2 (hmem.2 e)]; simp [h.len]
      · unfold addQ
        rw [Int.toNat_natCast, Int.toNat_natCast]
        by_cases c2 : blocksF A m ∈ Q.map (blocksF A)
        · rw [if_pos c2, if_pos (hmem.1 c2)]; exact h.like
        · rw [if_neg c2, if_neg fun e => c2 (hmem.2 e)]
          intro k hk
          by_cases c3 : k < Q.length
          · rw [getD_left c3, getD_left (by rw [← h.len]; exact c3)]; exact h.like k c3
          · have : k = Q.length := by simp at hk; omega
            subst this
            rw [getD_right (Nat.le_refl _), Nat.sub_self, getD_right (by rw [h.len]; exact Nat.le_refl _), h.len, Nat.sub_self]
            exact he
    refine ⟨hp, ?_⟩
    have := par_idx hA hB hp sq sr he
    rw [val_nat, val_nat] at this
    rw [Int.toNat_natCast, Int.toNat_natCast, this]
theorem d_dt (A : Aut) (q b : Nat) : A.d q b = dt A (q : Int) b := by unfold dt; rw [if_neg (by omega), Int.toNat_natCast]
theorem par_row (hA : A.Ok) (hB : B.Ok) {Q Q' : List Nat} (h : Par A B Q Q') {q r : Nat} (hq : q < A.n) (hr : r < B.n) (he : sameAB A B (q : Nat) (r : Nat)) : ∀ k, k ≤ 256 →
    Par A B (rowQ A (blocksF A) q Q k).1 (rowQ B (blocksF B) r Q' k).1 ∧ (rowQ A (blocksF A) q Q k).2 = (rowQ B (blocksF B) r Q' k).2
  | 0, _ => ⟨h, rfl⟩
  | k + 1, hk => by
    obtain ⟨h1, h2⟩ := par_row hA hB h hq hr he k (by omega)
    obtain ⟨h3, h4⟩ := par_step hA hB h1 (st_d hA hq (b := k) (by omega)) (st_d hB hr (b := k) (by omega)) (by rw [d_dt, d_dt]; exact he.step k (by omega))
    simp only [rowQ]
    exact ⟨h3, by rw [h2, h4]⟩
theorem par_go (hA : A.Ok) (hB : B.Ok) : ∀ (f f' n : Nat) (Q Q' : List Nat) (out : List Row), Par A B Q Q' → n ≤ Q.length → A.n + 1 ≤ f + n → B.n + 1 ≤ f' + n →
    Par A B (minGo A (blocksF A) f n Q out).1 (minGo B (blocksF B) f' n Q' out).1 ∧ (minGo A (blocksF A) f n Q out).2 = (minGo B (blocksF B) f' n Q' out).2
  | 0, f', n, Q, Q', out, h, hn, h1, _ => by have := h.okA.len; omega
  | f + 1, 0, n, Q, Q', out, h, hn, _, h2 => by have := h.okB.len; have := h.len; omega
  | f + 1, f' + 1, n, Q, Q', out, h, hn, h1, h2 => by
    unfold minGo
    by_cases c : n < Q.length
    · have c' : n < Q'.length := by rw [← h.len]; exact c
      rw [if_pos c, if_pos c']
      obtain ⟨h3, h4⟩ := par_row hA hB h (h.okA.lt _ (getD_mem c)) (h.okB.lt _ (getD_mem c')) (h.like n c) 256 (Nat.le_refl _)
      rw [h4]
      refine par_go hA hB f f' (n + 1) _ _ _ h3 ?_ (by omega) (by omega)
      obtain ⟨E, e⟩ := row_pre (A := A) (bl := blocksF A) (Q.getD n 0) Q 256
      rw [e]; simp; omega
    · rw [if_neg c, if_neg (by rw [← h.len]; exact c)]
      exact ⟨h, rfl⟩
theorem min_unique (hA : A.Ok) (hB : B.Ok) (h : sameAB A B 0 0) : (minF A (blocksF A)).2 = (minF B (blocksF B)).2 ∧ (minF A (blocksF A)).1.map A.tag = (minF B (blocksF B)).1.map B.tag := by
  have hp : Par A B [0] [0] := ⟨rfl, fun k hk => by
    obtain rfl : k = 0 := by simp at hk; exact hk
    exact h, qok0 hA, qok0 hB⟩
  obtain ⟨h1, h2⟩ := par_go hA hB (A.n + 1) (B.n + 1) 0 [0] [0] [] hp (by simp) (by omega) (by omega)
  refine ⟨h2, ?_⟩
  have h3 := h1.like
  have h4 := h1.len
  refine List.ext_getElem? fun k => ?_
  show ((minGo A (blocksF A) (A.n + 1) 0 [0] []).1.map A.tag)[k]? = ((minGo B (blocksF B) (B.n + 1) 0 [0] []).1.map B.tag)[k]?
  by_cases c : k < (minGo A (blocksF A) (A.n + 1) 0 [0] []).1.length
  · have c' : k < (minGo B (blocksF B) (B.n + 1) 0 [0] []).1.length := by rw [← h4]; exact c
    have := h3 k c []
    simp only [go] at this
    rw [List.getD_eq_getElem?_getD, List.getElem?_eq_getElem c, List.getD_eq_getElem?_getD, List.getElem?_eq_getElem c'] at this
    unfold tg at this
    rw [if_neg (by simp), if_neg (by simp)] at this
    simp only [Option.getD_some, Int.toNat_natCast] at this
    rw [List.getElem?_map, List.getElem?_map, List.getElem?_eq_getElem c, List.getElem?_eq_getElem c']
    exact congrArg some this
  · rw [List.getElem?_eq_none (by simpa using c), List.getElem?_eq_none (by rw [List.length_map, ← h4]; simpa using c)]
end
end Go.Proofs.Ytbiacehgfmgfdaa.smallL
