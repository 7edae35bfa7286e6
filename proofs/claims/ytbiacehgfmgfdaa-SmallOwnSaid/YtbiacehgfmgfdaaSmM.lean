/- The smallest automaton: what small.Minimal computes, and what it means; no program in sight. -/
import Derived.Test.YtbiacehgfmgfdaaSmB
namespace Go.Proofs.Ytbiacehgfmgfdaa.smallL
section
variable (A : Aut) (bl : Nat → Nat)
def addQ (Q : List Nat) (to : Int) : List Nat := if bl to.toNat ∈ Q.map bl then Q else Q ++ [to.toNat]
def stepQ (Q : List Nat) (to : Int) : List Nat × Int := if val bl to = 0 then (Q, -1) else (addQ bl Q to, (idx ((addQ bl Q to).map bl) (bl to.toNat) : Int))
/-- behind k bytes of a state's row -/
def rowQ (q : Nat) (Q : List Nat) : Nat → List Nat × List Int
  | 0 => (Q, [])
  | k + 1 => ((stepQ bl (rowQ q Q k).1 (A.d q k)).1, (rowQ q Q k).2 ++ [(stepQ bl (rowQ q Q k).1 (A.d q k)).2])
def vec (l : List Int) : Row := Vector.ofFn fun b : Fin 256 => l.getD b 0
def minGo : Nat → Nat → List Nat → List Row → List Nat × List Row
  | 0, _, Q, out => (Q, out)
  | f + 1, n, Q, out => if n < Q.length then minGo f (n + 1) (rowQ A bl (Q.getD n 0) Q 256).1 (out ++ [vec (rowQ A bl (Q.getD n 0) Q 256).2]) else (Q, out)
def minF : List Nat × List Row := minGo A bl (A.n + 1) 0 [0] []
end
/-- the smallest one -/
def minA (A : Aut) : Aut := ⟨(minF A (blocksF A)).1.length, fun k b => ((minF A (blocksF A)).2.getD k (Vector.replicate 256 0)).toList.getD b 0, fun k => ((minF A (blocksF A)).1.map A.tag).getD k 0⟩
section
variable {A : Aut} {bl : Nat → Nat}
/-- states that are to be looked at -/
structure QOk (A : Aut) (bl : Nat → Nat) (Q : List Nat) : Prop where
  head : ∃ R, Q = 0 :: R ∧ ∀ q ∈ R, bl q ≠ 0
  lt : ∀ q ∈ Q, q < A.n
  nodup : (Q.map bl).Nodup
theorem QOk.len {Q : List Nat} (h : QOk A bl Q) : Q.length ≤ A.n ∧ 0 < Q.length := by
  have h1 : Q.Nodup := List.Pairwise.of_map bl (fun a b hne e => hne (by rw [e])) h.nodup
  refine ⟨nodup_bound h1 h.lt, ?_⟩
  obtain ⟨R, rfl, _⟩ := h.head
  simp
theorem qok0 (hA : A.Ok) : QOk A bl [0] := ⟨⟨[], rfl, by simp⟩, fun q hq => by simp at hq; subst hq; exact hA.pos, by simp⟩
theorem qok_add {Q : List Nat} (h : QOk A bl Q) {to : Int} (h1 : St A to) (h0 : val bl to ≠ 0) : QOk A bl (addQ bl Q to) := by
  unfold addQ
  unfold val at h0
  split at h0
  · exact absurd rfl h0
  · split
    · exact h
    · rename_i hneg hn
      unfold St at h1
      obtain ⟨R, rfl, hR⟩ := h.head
      refine ⟨⟨R ++ [to.toNat], rfl, fun q hq => ?_⟩, fun q hq => ?_, ?_⟩
      · rcases List.mem_append.1 hq with hq | hq
        · exact hR q hq
        · simp at hq; subst hq; exact h0
      · rcases List.mem_append.1 hq with hq | hq
        · exact h.lt q hq
        · simp at hq; subst hq; omega
      · rw [List.map_append]
        refine List.nodup_append.2 ⟨h.nodup, by simp, fun a ha b hb e => ?_⟩
        simp at hb; subst hb e
        exact hn ha
theorem add_pre (Q : List Nat) (to : Int) : ∃ E, addQ bl Q to = Q ++ E := by
  unfold addQ; split
  · exact ⟨[], by simp⟩
  · exact ⟨_, rfl⟩
theorem add_mem (Q : List Nat) (to : Int) : bl to.toNat ∈ (addQ bl Q to).map bl := by
  unfold addQ; split
  · assumption
  · simp
theorem qok_step {Q : List Nat} (h : QOk A bl Q) {to : Int} (h1 : St A to) : QOk A bl (stepQ bl Q to).1 := by
  unfold stepQ; split
  · exact h
  · rename_i h0; exact qok_add h h1 h0
theorem step_pre (Q : List Nat) (to : Int) : ∃ E, (stepQ bl Q to).1 = Q ++ E := by
  unfold stepQ; split
  · exact ⟨[], by simp⟩
  · exact add_pre Q to
theorem row_len (q : Nat) (Q : List Nat) : ∀ k, (rowQ A bl q Q k).2.length = k
  | 0 => rfl
  | k + 1 => by simp [rowQ, row_len q Q k]
theorem st_d (hA : A.Ok) {q : Nat} (hq : q < A.n) {b : Nat} (hb : b < 256) : St A (A.d q b) := hA.step q hq b hb
theorem qok_row (hA : A.Ok) {Q : List Nat} (h : QOk A bl Q) {q : Nat} (hq : q < A.n) : ∀ k, k ≤ 256 → QOk A bl (rowQ A bl q Q k).1
  | 0, _ => h
  | k + 1, hk => qok_step (qok_row hA h hq k (by omega)) (st_d hA hq (by omega))
theorem row_pre (q : Nat) (Q : List Nat) : ∀ k, ∃ E, (rowQ A bl q Q k).1 = Q ++ E
  | 0 => ⟨[], by simp [rowQ]⟩
  | k + 1 => by
    obtain ⟨E, h⟩ := row_pre q Q k
    obtain ⟨E', h'⟩ := step_pre (bl := bl) (rowQ A bl q Q k).1 (A.d q k)
    exact ⟨E ++ E', by simp only [rowQ]; rw [h', h, List.append_assoc]⟩
/-- what a row tells, the states being numbered by Q -/
def RowIs (A : Aut) (bl : Nat → Nat) (Q : List Nat) (q b : Nat) (x : Int) : Prop := (val bl (A.d q b) = 0 → x = -1) ∧ (val bl (A.d q b) ≠ 0 → val bl (A.d q b) ∈ Q.map bl ∧ x = (idx (Q.map bl) (val bl (A.d q b)) : Int))
theorem RowIs.more {Q : List Nat} {q b : Nat} {x : Int} (h : RowIs A bl Q q b x) (E : List Nat) : RowIs A bl (Q ++ E) q b x := by
  refine ⟨h.1, fun h0 => ?_⟩
  obtain ⟨h1, h2⟩ := h.2 h0
  rw [List.map_append, idx_pre h1]
  exact ⟨List.mem_append_left _ h1, h2⟩
theorem step_is (Q : List Nat) (q b : Nat) : RowIs A bl (stepQ bl Q (A.d q b)).1 q b (stepQ bl Q (A.d q b)).2 := by
  unfold stepQ
  split
  · rename_i h; exact ⟨fun _ => rfl, fun h' => absurd h h'⟩
  · rename_i h
    refine ⟨fun h' => absurd h' h, fun _ => ?_⟩
    have e : val bl (A.d q b) = bl (A.d q b).toNat := by
      unfold val at h ⊢
      split at h
      · exact absurd rfl h
      · rename_i hn; rw [if_neg hn]
    rw [e]
    exact ⟨add_mem Q _, rfl⟩
theorem row_is (q : Nat) (Q : List Nat) : ∀ k b, b < k → RowIs A bl (rowQ A bl q Q k).1 q b ((rowQ A bl q Q k).2.getD b 0)
  | 0, _, h => by omega
  | k + 1, b, h => by
    have hl := row_len (A := A) (bl := bl) q Q k
    simp only [rowQ]
    by_cases c : b < k
    · have ih := row_is q Q k b c
      obtain ⟨E, e⟩ := step_pre (bl := bl) (rowQ A bl q Q k).1 (A.d q k)
      rw [e, getD_left (by omega)]
      exact ih.more E
    · obtain rfl : b = k := by omega
      rw [getD_right (by omega), hl, Nat.sub_self]
      exact step_is _ q b
theorem vec_get (l : List Int) (b : Nat) (hb : b < 256) : (vec l).toList.getD b 0 = l.getD b 0 := by
  have h : b < (vec l).toList.length := by simp; exact hb
  rw [List.getD_eq_getElem?_getD, List.getElem?_eq_getElem h, Option.getD_some, Vector.getElem_toList]
  unfold vec
  rw [Vector.getElem_ofFn]
/-- on the way: rows of the first n states are there -/
structure Outs (A : Aut) (bl : Nat → Nat) (n : Nat) (Q : List Nat) (out : List Row) : Prop where
  len : out.length = n
  le : n ≤ Q.length
  rows : ∀ k, k < n → ∀ b, b < 256 → RowIs A bl Q (Q.getD k 0) b ((out.getD k (Vector.replicate 256 0)).toList.getD b 0)
theorem outs_step (hA : A.Ok) {n : Nat} {Q : List Nat} {out : List Row} (h : Outs A bl n Q out) (hn : n < Q.length) : Outs A bl (n + 1) (rowQ A bl (Q.getD n 0) Q 256).1 (out ++ [vec (rowQ A bl (Q.getD n 0) Q 256).2]) := by
  obtain ⟨E, e⟩ := row_pre (A := A) (bl := bl) (Q.getD n 0) Q 256
  have hr := row_is (A := A) (bl := bl) (Q.getD n 0) Q 256
  have hlen := h.len
  refine ⟨by simp [hlen], by rw [e]; simp; omega, fun k hk b hb => ?_⟩
  have hk' : k < Q.length := by omega
  rw [e] at hr ⊢
  rw [getD_left hk']
  by_cases c : k < n
  · rw [getD_left (by omega)]
    exact (h.rows k c b hb).more E
  · obtain rfl : k = n := by omega
    rw [getD_right (by omega), hlen, Nat.sub_self]
    show RowIs A bl (Q ++ E) (Q.getD k 0) b ((vec _).toList.getD b 0)
    rw [vec_get _ b hb]
    exact hr b hb
theorem getD_mem {Q : List Nat} {n : Nat} (h : n < Q.length) : Q.getD n 0 ∈ Q := by
  rw [List.getD_eq_getElem?_getD, List.getElem?_eq_getElem h]; exact List.getElem_mem h
theorem min_go (hA : A.Ok) : ∀ (f n : Nat) (Q : List Nat) (out : List Row), QOk A bl Q → Outs A bl n Q out → A.n + 1 ≤ f + n → QOk A bl (minGo A bl f n Q out).1 ∧ Outs A bl (minGo A bl f n Q out).1.length (minGo A bl f n Q out).1 (minGo A bl f n Q out).2
  | 0, n, Q, out, hQ, hO, hf => by have := hQ.len; have := hO.le; omega
  | f + 1, n, Q, out, hQ, hO, hf => by
    unfold minGo
    split
    · rename_i hn
      exact min_go hA f _ _ _ (qok_row hA hQ (hQ.lt _ (getD_mem hn)) 256 (Nat.le_refl _)) (outs_step hA hO hn) (by omega)
    · rename_i hn
      have := hO.le
      obtain rfl : n = Q.length := by omega
      exact ⟨hQ, hO⟩
theorem min_ok (hA : A.Ok) : QOk A bl (minF A bl).1 ∧ Outs A bl (minF A bl).1.length (minF A bl).1 (minF A bl).2 :=
  min_go hA _ _ _ _ (qok0 hA) ⟨rfl, Nat.zero_le _, fun k hk => by omega⟩ (by omega)
theorem min_rows (hA : A.Ok) {k : Nat} (hk : k < (minA A).n) {b : Nat} (hb : b < 256) : RowIs A (blocksF A) (minF A (blocksF A)).1 ((minF A (blocksF A)).1.getD k 0) b ((minA A).d k b) :=
  (min_ok (bl := blocksF A) hA).2.rows k hk b hb
theorem idx_map {Q : List Nat} (hn : (Q.map bl).Nodup) {k : Nat} (hk : k < Q.length) : idx (Q.map bl) (bl (Q.getD k 0)) = k := by
  have h : k < (Q.map bl).length := by simpa using hk
  have := idx_of_get hn h
  rw [List.getElem_map] at this
  rw [List.getD_eq_getElem?_getD, List.getElem?_eq_getElem hk]; exact this
theorem min_tag {k : Nat} (hk : k < (minA A).n) : (minA A).tag k = A.tag ((minF A (blocksF A)).1.getD k 0) := by
  have hk' : k < (minF A (blocksF A)).1.length := hk
  show ((minF A (blocksF A)).1.map A.tag).getD k 0 = _
  rw [List.getD_eq_getElem?_getD, List.getElem?_map, List.getD_eq_getElem?_getD, List.getElem?_eq_getElem hk']; rfl
theorem minA_ok (hA : A.Ok) : (minA A).Ok := by
  obtain ⟨hQ, hO⟩ := min_ok (bl := blocksF A) hA
  obtain ⟨h1, h2⟩ := hQ.len
  have hle := hA.le
  refine ⟨h2, Nat.le_trans h1 hle, fun k hk b hb => ?_, fun k hk => by rw [min_tag hk]; exact hA.tags _ (hQ.lt _ (getD_mem hk))⟩
  have hr := min_rows hA hk hb
  by_cases c : val (blocksF A) (A.d ((minF A (blocksF A)).1.getD k 0) b) = 0
  · rw [hr.1 c]; exact ⟨by omega, by omega⟩
  · obtain ⟨r1, r2⟩ := hr.2 c
    have := idx_lt r1
    rw [List.length_map] at this
    rw [r2]
    exact ⟨by omega, by show _ < ((minF A (blocksF A)).1.length : Int); omega⟩
theorem min_le (hA : A.Ok) : (minA A).n ≤ A.n := (min_ok (bl := blocksF A) hA).1.len.1
/-- the state of A that state k is of -/
def rep (A : Aut) (k : Int) : Int := if k < 0 then -1 else ((minF A (blocksF A)).1.getD k.toNat 0 : Int)
theorem rep_st (hA : A.Ok) {k : Int} (hk : St (minA A) k) : St A (rep A k) := by
  unfold rep St at *
  have := hA.pos
  split
  · omega
  · have := (min_ok (bl := blocksF A) hA).1.lt _ (getD_mem (show k.toNat < (minF A (blocksF A)).1.length by have := hk.2; show _ < (minA A).n; omega))
    omega
theorem rep0 (hA : A.Ok) : rep A 0 = 0 := by
  obtain ⟨R, e, _⟩ := (min_ok (bl := blocksF A) hA).1.head
  show ((minF A (blocksF A)).1.getD 0 0 : Int) = 0
  rw [e]; rfl
/-- step by step -/
theorem rep_step (hA : A.Ok) {k : Int} (hk : St (minA A) k) {b : Nat} (hb : b < 256) : val (blocksF A) (rep A (dt (minA A) k b)) = val (blocksF A) (dt A (rep A k) b) := by
  by_cases c : k < 0
  · unfold dt rep; rw [if_pos c, if_pos c]; rfl
  · have hkl : k.toNat < (minA A).n := by unfold St at hk; omega
    have hr := min_rows hA hkl hb
    have hq : (minF A (blocksF A)).1.getD k.toNat 0 = (rep A k).toNat := by unfold rep; rw [if_neg c]; rfl
    have hneg : ¬ rep A k < 0 := by unfold rep; rw [if_neg c]; omega
    have e1 : dt (minA A) k b = (minA A).d k.toNat b := by unfold dt; rw [if_neg c]
    have e2 : dt A (rep A k) b = A.d (rep A k).toNat b := by unfold dt; rw [if_neg hneg]
    rw [hq] at hr
    rw [e1, e2]
    by_cases c2 : val (blocksF A) (A.d (rep A k).toNat b) = 0
    · rw [hr.1 c2, c2]; rfl
    · obtain ⟨r1, r2⟩ := hr.2 c2
      have hlt := idx_lt r1
      rw [r2]
      generalize hv : val (blocksF A) (A.d (rep A k).toNat b) = v at *
      have hg := idx_get hlt
      rw [List.length_map] at hlt
      rw [List.getElem_map] at hg
      unfold rep
      rw [if_neg (by omega), Int.toNat_natCast]
      show val (blocksF A) (((minF A (blocksF A)).1.getD (idx ((minF A (blocksF A)).1.map (blocksF A)) v) 0 : Nat) : Int) = v
      unfold val
      rw [if_neg (by omega), Int.toNat_natCast, List.getD_eq_getElem?_getD, List.getElem?_eq_getElem hlt]
      exact hg
theorem same_trans {q r s : Int} (h : same A q r) (h' : same A r s) : same A q s := fun u => (h u).trans (h' u)
/-- state k of the smallest one tells what its state of A tells -/
theorem min_tells (hA : A.Ok) : ∀ (s : List UInt8) {k : Int}, St (minA A) k → tg (minA A) (go (minA A) k s) = tg A (go A (rep A k) s)
  | [], k, hk => by
    unfold go tg rep
    by_cases c : k < 0
    · rw [if_pos c, if_pos c]; rfl
    · rw [if_neg c, if_neg c, if_neg (by omega), Int.toNat_natCast]
      exact min_tag (by unfold St at hk; omega)
  | b :: s, k, hk => by
    have hb := b.toNat_lt
    have h1 := min_tells hA s (st_dt (minA_ok hA) hk hb)
    have h2 : same A (rep A (dt (minA A) k b.toNat)) (dt A (rep A k) b.toNat) := ((blocks_of hA).same hA (rep_st hA (st_dt (minA_ok hA) hk hb)) (st_dt hA (rep_st hA hk) hb)).1 (rep_step hA hk hb)
    show tg (minA A) (go (minA A) (dt (minA A) k b.toNat) s) = tg A (go A (dt A (rep A k) b.toNat) s)
    rw [h1]; exact h2 s
theorem min_means (hA : A.Ok) (s : List UInt8) : tg (minA A) (go (minA A) 0 s) = tg A (go A 0 s) := by
  have := min_tells hA s (k := 0) ⟨by omega, by have := (minA_ok hA).pos; omega⟩
  rwa [rep0 hA] at this
/-- any two states are told apart -/
theorem min_apart (hA : A.Ok) {k j : Nat} (hk : k < (minA A).n) (hj : j < (minA A).n) (h : same (minA A) k j) : k = j := by
  have sk : St (minA A) (k : Int) := ⟨by omega, by omega⟩
  have sj : St (minA A) (j : Int) := ⟨by omega, by omega⟩
  have h2 : same A (rep A k) (rep A j) := fun s => by rw [← min_tells hA s sk, ← min_tells hA s sj]; exact h s
  have h3 := ((blocks_of hA).same hA (rep_st hA sk) (rep_st hA sj)).2 h2
  have e : ∀ i : Nat, val (blocksF A) (rep A i) = blocksF A ((minF A (blocksF A)).1.getD i 0) := fun i => by
    unfold rep val; rw [if_neg (by omega), if_neg (by omega), Int.toNat_natCast, Int.toNat_natCast]
  rw [e, e] at h3
  have hn := (min_ok (bl := blocksF A) hA).1.nodup
  rw [← idx_map hn (k := k) hk, ← idx_map hn (k := j) hj, h3]
/-- all but the first one lead to a tag -/
theorem min_leads (hA : A.Ok) {k : Nat} (hk : k < (minA A).n) (h0 : k ≠ 0) : ∃ s, tg (minA A) (go (minA A) k s) ≠ -1 := by
  apply Classical.byContradiction
  intro hn
  have sk : St (minA A) (k : Int) := ⟨by omega, by omega⟩
  have h2 : same A (rep A k) (-1) := fun s => by
    rw [← min_tells hA s sk]
    have h1 : tg (minA A) (go (minA A) k s) = -1 := Classical.byContradiction fun h => hn ⟨s, h⟩
    have h3 : tg A (go A (-1) s) = -1 := by
      have := go_neg (A := A) s (show (-1 : Int) < 0 by decide)
      unfold tg; rw [if_pos this]
    rw [h1, h3]
  have h3 := ((blocks_of hA).same hA (rep_st hA sk) ⟨by omega, by omega⟩).2 h2
  obtain ⟨R, e, hR⟩ := (min_ok (bl := blocksF A) hA).1.head
  have hkl : k < (minF A (blocksF A)).1.length := hk
  have : val (blocksF A) (rep A k) ≠ 0 := by
    unfold rep val
    rw [if_neg (by omega), if_neg (by omega), Int.toNat_natCast, Int.toNat_natCast]
    rw [e] at hkl ⊢
    cases k with
    | zero => exact absurd rfl h0
    | succ k =>
      simp only [List.length_cons] at hkl
      show blocksF A (R.getD k 0) ≠ 0
      rw [List.getD_eq_getElem?_getD, List.getElem?_eq_getElem (by omega)]
      exact hR _ (List.getElem_mem _)
  exact this h3
end
end Go.Proofs.Ytbiacehgfmgfdaa.smallL
