/- Automata in memory: rows as cells; what checks and runs say of them. -/
import Derived.Test.YtbiacehgfmgfdaaDfaR
import Derived.Test.YtbiacehgfmgfdaaSmP
import Derived.Test.YtbiacehgfmgfdaaMgB
namespace Go.Proofs.Ytbiacehgfmgfdaa.eng
open Go.RowKit kit mix dfaL smallL
def rowC (r : Row) : List Value := r.toList.map (.int .i16)
theorem rowC_len (r : Row) : (rowC r).length = 256 := by simp [rowC]
theorem rowC_get (r : Row) {b : Nat} (hb : b < 256) : (rowC r)[b]? = some (.int .i16 r[b]) := by
  unfold rowC
  rw [List.getElem?_map, List.getElem?_eq_getElem (by simpa using hb), Vector.getElem_toList]; rfl
theorem row_one (l : List Row) : ∀ u ∈ l.flatMap rowC, u.oneCell' = true := by
  intro u hu
  obtain ⟨x, _, h⟩ := List.mem_flatMap.1 hu
  obtain ⟨n, _, rfl⟩ := List.mem_map.1 h
  rfl
theorem row_one1 (r : Row) : (rowC r).all Value.oneCell' = true := List.all_eq_true.2 fun u hu => row_one [r] u (by simpa using hu)
def dfaV (vr vt : Value) : Value := .agg #[vr, vt]
def row0 : Row := Vector.replicate 256 0
/-- an automaton that can be read -/
structure DfaM (w : World) (vr vt : Value) (R : List Row) (tags : List Int) : Prop where
  hR : Sl w vr R.length (R.flatMap rowC)
  hT : Sl w vt tags.length (tags.flatMap kit.intC)
  rng : ∀ r ∈ R, ∀ x ∈ r.toList, -32768 ≤ x ∧ x ≤ 32767
  okT : ∀ x ∈ tags, kit.okI64 x
theorem DfaM.gr {w w' : World} {vr vt : Value} {R : List Row} {tags : List Int} (h : DfaM w vr vt R tags) (hg : Gr w w') : DfaM w' vr vt R tags := ⟨h.hR.gr hg, h.hT.gr hg, h.rng, h.okT⟩
theorem map_vec {rows : List (List Int)} (h : ∀ r ∈ rows, r.length = 256) : (rows.map vec).map Vector.toList = rows := by
  rw [List.map_map]
  refine (List.map_congr_left fun r hr => ?_).trans (List.map_id _)
  have hl := h r hr
  refine List.ext_getElem (by simp [hl]) fun b h1 h2 => ?_
  have e := vec_get r b (by rw [← hl]; exact h2)
  have h2' : b < r.length := h2
  rw [List.getD_eq_getElem?_getD, List.getElem?_eq_getElem (by simpa using h1), List.getD_eq_getElem?_getD, List.getElem?_eq_getElem h2'] at e
  exact e
theorem dfaM_of {w : World} {v : Value} {rows : List (List Int)} {tags : List Int} (h : IsDfa w v rows tags) : ∃ vr vt R, v = dfaV vr vt ∧ DfaM w vr vt R tags ∧ rows = R.map Vector.toList := by
  obtain ⟨vr, vt, rfl, hr, ht, h256⟩ := h
  have e := map_vec h256
  have hrng : ∀ r ∈ rows, ∀ x ∈ r, -32768 ≤ x ∧ x ≤ 32767 := fun r hr' => by
    obtain ⟨i, hi, rfl⟩ := List.mem_iff_getElem.1 hr'
    obtain ⟨_, _, _, _, _, h5⟩ := hr
    obtain ⟨_, _, _, h6⟩ := h5 (by omega)
    obtain ⟨cs, h7, _⟩ := h6 i hi
    exact h7.2.2
  have hokT : ∀ x ∈ tags, kit.okI64 x := fun x hx => by
    obtain ⟨i, hi, rfl⟩ := List.mem_iff_getElem.1 hx
    obtain ⟨_, _, _, _, _, h5⟩ := ht
    obtain ⟨_, _, _, h6⟩ := h5 (by omega)
    obtain ⟨_, h7, _⟩ := h6 i hi
    exact ⟨h7.2.1, h7.2.2⟩
  have ht' := ht.sl (f := .int .i64) fun cs a h => h.1
  refine ⟨vr, vt, rows.map vec, rfl, ⟨?_, by rw [show tags.flatMap kit.intC = tags.map (.int .i64) from kit.flat1 tags]; exact ht', fun r hr' x hx => ?_, hokT⟩, e.symm⟩
  · obtain ⟨base, cap, h1, h2, h3, h4⟩ := hr
    have hx : SlX w (fun cs r => cs = rowC r) 256 vr (rows.map vec) := by
      refine ⟨base, cap, by rw [List.length_map]; exact h1, by rw [List.length_map]; exact h2, h3, fun h0 => ?_⟩
      rw [List.length_map] at h0
      obtain ⟨b, off, h5, h6⟩ := h4 h0
      refine ⟨b, off, h5, fun i hi => ?_⟩
      have hi' : i < rows.length := by simpa using hi
      obtain ⟨cs, ⟨_, h8, _⟩, h7⟩ := h6 i hi'
      refine ⟨cs, ?_, h7⟩
      have e2 : ((rows.map vec)[i]).toList = rows[i] := by
        have : ((rows.map vec).map Vector.toList)[i]'(by simpa using hi') = rows[i] := by simp only [e]
        rw [List.getElem_map] at this; exact this
      show cs = ((rows.map vec)[i]).toList.map (.int .i16)
      rw [e2, h8]
    exact SlX.flat (f := rowC) hx rowC_len (by decide) (fun cs a h => h)
  · refine hrng r.toList ?_ x hx
    rw [← e]; exact List.mem_map.2 ⟨r, hr', rfl⟩
theorem DfaM.isDfa {w : World} {vr vt : Value} {R : List Row} {tags : List Int} (h : DfaM w vr vt R tags) : IsDfa w (dfaV vr vt) (R.map Vector.toList) tags := by
  refine ⟨vr, vt, rfl, ?_, ?_, fun r hr => by obtain ⟨x, _, rfl⟩ := List.mem_map.1 hr; simp⟩
  · obtain ⟨base, cap, h1, h2, h3, h4⟩ := h.hR
    refine ⟨base, cap, by rw [List.length_map]; exact h1, by rw [List.length_map]; exact h2, h3, fun h0 => ?_⟩
    rw [List.length_map] at h0
    obtain ⟨b, off, h5, h6⟩ := h4 h0
    refine ⟨b, off, h5, fun i hi => ?_⟩
    have hi' : i < R.length := by simpa using hi
    refine ⟨rowC R[i], ⟨by simp, by simp [rowC], fun x hx => h.rng R[i] (List.getElem_mem hi') x (by simpa using hx)⟩, fun j u hj => ?_⟩
    have hjl : j < 256 := by have := (List.getElem?_eq_some_iff.1 hj).1; rwa [rowC_len] at this
    have := h6 (i * 256 + j) u (by rw [get_el rowC_len R i j hi' hjl]; exact hj)
    rw [Nat.add_assoc]; exact this
  · obtain ⟨base, cap, h1, h2, h3, h4⟩ := h.hT
    refine ⟨base, cap, h1, h2, h3, fun h0 => ?_⟩
    obtain ⟨b, off, h5, h6⟩ := h4 h0
    refine ⟨b, off, h5, fun i hi => ⟨[.int .i64 tags[i]], ⟨rfl, h.okT _ (List.getElem_mem hi)⟩, fun j u hj => ?_⟩⟩
    have hj0 : j = 0 := by have := (List.getElem?_eq_some_iff.1 hj).1; simpa using this
    subst hj0
    rw [Nat.mul_one, Nat.add_zero]
    refine h6 i u ?_
    rw [show tags.flatMap kit.intC = tags.map (.int .i64) from kit.flat1 tags, List.getElem?_map, List.getElem?_eq_getElem hi]
    exact hj
/-- the automaton that is meant -/
def aut (R : List Row) (tags : List Int) : Aut := ⟨R.length, fun i b => (R.getD i row0).toList.getD b 0, fun i => tags.getD i 0⟩
def chk (R : List Row) (tags : List Int) : Int := checkF (R.map Vector.toList) tags
theorem rows_getD (R : List Row) {i : Nat} (hi : i < R.length) : (R.map Vector.toList).getD i [] = (R.getD i row0).toList := by
  rw [List.getD_eq_getElem?_getD, List.getElem?_map, List.getD_eq_getElem?_getD, List.getElem?_eq_getElem hi]; rfl
theorem chk_ok {R : List Row} {tags : List Int} (h : chk R tags = 0) : (aut R tags).Ok ∧ tags.length = R.length := by
  obtain ⟨h1, h2, h3, h4⟩ := check_ok h
  rw [List.length_map] at h1 h2 h3 h4
  refine ⟨⟨h2, h1, fun i hi b hb => ?_, fun i hi => ?_⟩, h3⟩
  · have := (h4 i hi).2.2
    rw [rows_getD R hi] at this
    refine this _ ?_
    show (R.getD i row0).toList.getD b 0 ∈ _
    rw [List.getD_eq_getElem?_getD (l := (R.getD i row0).toList), List.getElem?_eq_getElem (by simpa using hb)]
    exact List.getElem_mem _
  · have := h4 i hi
    exact ⟨this.1, this.2.1⟩
theorem ok_chk {R : List Row} {tags : List Int} (h : (aut R tags).Ok) (hl : tags.length = R.length) : chk R tags = 0 := by
  have h1 : R.length ≤ 200 := h.le
  have h2 : 0 < R.length := h.pos
  unfold chk checkF
  rw [List.length_map, if_neg (by omega), if_neg (by omega), if_neg]
  simp only [List.any_eq_true, List.mem_range, not_exists, not_and]
  intro i hi
  have ht := h.tags i hi
  have hs := h.step i hi
  rw [rows_getD R hi]
  simp only [rowBad, Bool.or_eq_true, decide_eq_true_eq, List.any_eq_true, not_or, not_exists, not_and]
  refine ⟨⟨?_, ?_⟩, fun t ht' => ?_⟩
  · show ¬ tags.getD i 0 < -1
    have : -1 ≤ tags.getD i 0 := ht.1
    omega
  · have : tags.getD i 0 < 20 := ht.2
    omega
  · obtain ⟨b, hb, rfl⟩ := List.mem_iff_getElem.1 ht'
    have hb' : b < 256 := by simpa using hb
    have := hs b hb'
    have e : (aut R tags).d i b = (R.getD i row0).toList[b] := by
      show (R.getD i row0).toList.getD b 0 = _
      rw [List.getD_eq_getElem?_getD (l := (R.getD i row0).toList), List.getElem?_eq_getElem hb]; rfl
    rw [e] at this
    have e2 : (aut R tags).n = R.length := rfl
    omega
theorem goes_aut {R : List Row} {tags : List Int} (hA : (aut R tags).Ok) : ∀ (s : List UInt8) (q : Int), St (aut R tags) q → goes (R.map Vector.toList) q s = go (aut R tags) q s
  | [], _, _ => rfl
  | b :: s, q, hq => by
    unfold goes go
    have hst := st_dt hA hq b.toNat_lt
    by_cases c : q < 0
    · rw [if_pos c]
      have e : dt (aut R tags) q b.toNat = q := by unfold dt; rw [if_pos c]; unfold St at hq; omega
      rw [e]
      have := goes_aut hA s q hq
      rw [← this, goes_neg _ s q c]
    · rw [if_neg c]
      have hq' : q.toNat < R.length := by have := hq.2; show q.toNat < R.length; have e : (aut R tags).n = R.length := rfl; omega
      rw [rows_getD R hq']
      have e : dt (aut R tags) q b.toNat = (R.getD q.toNat row0).toList.getD b.toNat 0 := by unfold dt; rw [if_neg c]; rfl
      rw [e] at hst ⊢
      exact goes_aut hA s _ hst
theorem st_zero {A : Aut} (hA : A.Ok) : St A 0 := ⟨by decide, by have := hA.pos; show (0 : Int) < A.n; omega⟩
/-- what dfa.Tag says -/
def tagF (R : List Row) (tags : List Int) (s : List UInt8) : Int × Int := if chk R tags = 0 then (tg (aut R tags) (go (aut R tags) 0 s), 0) else (0, chk R tags)
theorem chk_cases (R : List Row) (tags : List Int) : chk R tags = 0 ∨ chk R tags = 1 ∨ chk R tags = 2 := checkF_cases _ _
end Go.Proofs.Ytbiacehgfmgfdaa.eng
