/- What rex.spans.ends computes. -/
import Derived.Test.YtbiacehgfmgfdaaDoorRexM
namespace Go.Proofs.YtbiacehgfmgfdaaDoor.eng
open Go.RowKit kit mix classL rexL classSets
section
variable {P : Program} {k : TypeId} {κ : Type} (K : KeyT P k κ)
variable {n : Nat} {W : Base} {fr : Fr} {L : List Own} {dst : Option Tmp} {ty : TypeId} {pos : String} {after : Array Edge} {guard : Option (Nat × Bool)} {i g c : Nat} {t e : TypeId} {m : κ → Option Value} {x : κ} {z v : Value} {xm xk : Operand}
theorem rr_lookOkS (ht : P.underlying t = some (.map k e)) (hz : ∀ w, (zeroValue e).run P w = .ok z w) (hi : L[i]? = some (mapO K g m c)) (hm : ev fr xm = some (.map (some g))) (hk : ev fr xk = some (K.kv x)) (hx : K.ok x) (hv : m x = some v) : RR P n W ⟨dst, .lookup t xm xk true, ty, pos, after, guard⟩ fr L (.tuple #[v, .bool true]) := by
  have := rr_lookOk K (n := n) (W := W) (dst := dst) (ty := ty) (pos := pos) (after := after) (guard := guard) ht hz hi hm hk hx
  rw [hv] at this; exact this
theorem rr_lookOkN (ht : P.underlying t = some (.map k e)) (hz : ∀ w, (zeroValue e).run P w = .ok z w) (hi : L[i]? = some (mapO K g m c)) (hm : ev fr xm = some (.map (some g))) (hk : ev fr xk = some (K.kv x)) (hx : K.ok x) (hv : m x = none) : RR P n W ⟨dst, .lookup t xm xk true, ty, pos, after, guard⟩ fr L (.tuple #[z, .bool false]) := by
  have := rr_lookOk K (n := n) (W := W) (dst := dst) (ty := ty) (pos := pos) (after := after) (guard := guard) ht hz hi hm hk hx
  rw [hv] at this; exact this
end
theorem build_at (a b : Int) (w : World) : (Instr.build 77 #[(0, .int .i64 a), (1, .int .i64 b)]).run Tryd.prog w = .ok (atV (a, b)) w := by kernel_rfl
/-- the kids of a numbered node -/
theorem nkid_at {F : Nat → Prop} {w : World} {v : Value} {r : Re} {k : Nat} (h : SlF numS F w v (kidsK r k)) (h0 : 0 < (kidsK r k).length) :
    ∃ b off cap, v = .slice (some ⟨b, off, none⟩) (kidsK r k).length cap ∧ F b ∧ ∀ j (hj : j < (kidsK r k).length), ∃ vk v', Rd w b (off + j * 8) (numC (kidsK r k)[j].1 (kidsK r k)[j].2 vk v') ∧ vk.oneCell' = true ∧ v'.oneCell' = true ∧ NumIs F w (numC (kidsK r k)[j].1 (kidsK r k)[j].2 vk v') (kidsK r k)[j] := by
  obtain ⟨base, cap, rfl, h1, h2, h3⟩ := h
  obtain ⟨b, off, rfl, hF, hr⟩ := h3 h0
  refine ⟨b, off, cap, rfl, hF, fun j hj => ?_⟩
  obtain ⟨cs, h4, h5⟩ := hr j hj
  have h4 : NumIs F w cs (kidsK r k)[j] := h4
  generalize (kidsK r k)[j] = e at *
  obtain ⟨a, q⟩ := e
  have h4' := h4
  obtain ⟨vk, v', rfl, h6, h7⟩ := num_iff.1 h4
  obtain ⟨b2, c2, rfl, _⟩ := h7
  exact ⟨vk, _, h5, h6, rfl, h4'⟩
theorem num_cls {r : Re} {k : Nat} {vk u : Value} {j : Nat} {v : Value} (h : (clsL r.cls)[j]? = some v) : (numC r k vk u).toArray[0 + 0 + 1 + j]? = some v := by
  have hj : j < (clsL r.cls).length := (List.getElem?_eq_some_iff.1 h).1
  rw [List.getElem?_toArray, show 0 + 0 + 1 + j = j + 1 by omega]
  show (clsL r.cls ++ [vk, .int .i64 (k : Int), u])[j]? = _
  rw [List.getElem?_append_left hj]; exact h
theorem endC_zero {s : List UInt8} {r : Re} {f : Nat} (h : ∀ j, ¬ EndP r s f j) : EndC s r f C4.zero := fun j _ => by rw [zero_mem]; simp [h j]
theorem endC_range {s : List UInt8} {r : Re} {f q : Nat} (h : ∀ j, EndP r s f j ↔ j = q) : EndC s r f (rangeF q q) := fun j hj => by
  rw [range_mem _ _ _ hj, h j, decide_eq_true_eq]; omega
theorem endC_alt {s : List UInt8} {a b : Re} {f : Nat} {x y : C4} (h : EndC s a f x) (h' : EndC s b f y) : EndC s (.alt a b) f (x.join y) := fun j hj => by
  rw [join_mem, Bool.or_eq_true, h j hj, h' j hj, end_alt]
theorem endC_le {s : List UInt8} {a : Re} {f : Nat} {x : C4} (h : EndC s a f x) (i : Nat) (hi : i < 256) (hx : x.mem i = true) : i ≤ s.length := ((h i hi).1 hx).2.1
theorem endC_cat {s : List UInt8} (hs : s.length ≤ 200) {a b : Re} {f : Nat} {x y : C4} (h : EndC s a f x) (h' : EachC s b x y) : EndC s (.cat a b) f y := fun j hj => by
  rw [h' j hj, end_cat]
  constructor
  · rintro ⟨i, h1, h2, h3⟩
    exact ⟨i, (h i h1).1 h2, h3⟩
  · rintro ⟨i, h2, h3⟩
    have : i < 256 := by have := h2.2.1; omega
    exact ⟨i, this, (h i this).2 h2, h3⟩
/-- on a star's way -/
structure StI (s : List UInt8) (a : Re) (f : Nat) (out now : C4) : Prop where
  sound : ∀ j, j < 256 → out.mem j = true → Rch (EndP a s) f j
  sub : ∀ j, j < 256 → now.mem j = true → out.mem j = true
  cl : ∀ i, i < 256 → out.mem i = true → now.mem i = false → ∀ j, EndP a s i j → out.mem j = true
  st : out.mem f = true
theorem sti0 {s : List UInt8} (hs : s.length ≤ 200) {a : Re} {f : Nat} (hf : f ≤ s.length) : StI s a f (rangeF f f) (rangeF f f) := by
  have hm : ∀ j, j < 256 → ((rangeF f f).mem j = true ↔ j = f) := fun j hj => by rw [range_mem _ _ _ hj, decide_eq_true_eq]; omega
  refine ⟨fun j hj h => ?_, fun j hj h => h, fun i hi h h' => ?_, (hm f (by omega)).2 rfl⟩
  · rw [(hm j hj).1 h]; exact .refl
  · rw [h] at h'; cases h'
theorem StI.le {s : List UInt8} {a : Re} {f : Nat} {out now : C4} (h : StI s a f out now) (hf : f ≤ s.length) (j : Nat) (hj : j < 256) (hn : now.mem j = true) : j ≤ s.length :=
  ((end_star hf).2 (h.sound j hj (h.sub j hj hn))).2.1
theorem sti_next {s : List UInt8} (hs : s.length ≤ 200) {a : Re} {f : Nat} {out now e : C4} (h : StI s a f out now) (he : EachC s a now e) : StI s a f (out.join (e.meet out.not)) (e.meet out.not) := by
  have hm : ∀ j, (e.meet out.not).mem j = (e.mem j && !out.mem j) := fun j => by rw [meet_mem, not_mem]
  refine ⟨fun j hj hq => ?_, fun j hj hq => ?_, fun i hi hq hq' j hj => ?_, ?_⟩
  · rw [join_mem, Bool.or_eq_true] at hq
    rcases hq with hq | hq
    · exact h.sound j hj hq
    · rw [hm, Bool.and_eq_true] at hq
      obtain ⟨i, h1, h2, h3⟩ := (he j hj).1 hq.1
      exact .step (h.sound i h1 (h.sub i h1 h2)) h3
  · rw [join_mem, hq, Bool.or_true]
  · have hj256 : j < 256 := by have := hj.2.1; omega
    rw [join_mem, hm, Bool.or_eq_true] at hq
    rw [join_mem, hm]
    rw [hm] at hq'
    have hi1 : out.mem i = true := by
      rcases hq with hq | hq
      · exact hq
      · rw [hq] at hq'; cases hq'
    cases c : now.mem i with
    | false => rw [h.cl i hi hi1 c j hj]; rfl
    | true =>
      have := (he j hj256).2 ⟨i, hi, c, hj⟩
      rw [this]
      cases out.mem j <;> rfl
  · rw [join_mem, h.st]; rfl
theorem sti_end {s : List UInt8} (hs : s.length ≤ 200) {a : Re} {f : Nat} {out : C4} (hf : f ≤ s.length) (h : StI s a f out C4.zero) : EndC s (.star a) f out := fun j hj => by
  rw [end_star hf]
  refine ⟨h.sound j hj, fun hr => ?_⟩
  have : ∀ j, Rch (EndP a s) f j → out.mem j = true := fun j hr => by
    induction hr with
    | refl => exact h.st
    | step _ h2 ih =>
      rename_i i j h1
      have : i < 256 := by have := h2.1; have := h2.2.1; omega
      exact h.cl i this ih (zero_mem i) j h2
  exact this j hr
def muS (out now : C4) : Nat := 2 * (256 - cnt out) + if now = C4.zero then 0 else 1
theorem cnt_zero : cnt C4.zero = 0 := by
  unfold cnt
  rw [List.length_eq_zero_iff, bytesL, List.filter_eq_nil_iff]
  intro j _
  rw [zero_mem]; decide
theorem cnt_pos {x : C4} (h : x ≠ C4.zero) : 0 < cnt x := by
  refine Nat.pos_of_ne_zero fun h0 => h ?_
  have : bytesL x = [] := List.length_eq_zero_iff.1 h0
  refine ext_mem fun n hn => ?_
  rw [zero_mem]
  cases e : x.mem n with
  | false => rfl
  | true => have := mem_bytes.2 ⟨hn, e⟩; rw [‹bytesL x = []›] at this; cases this
theorem mu_next {out now e : C4} (h : now ≠ C4.zero) : muS (out.join (e.meet out.not)) (e.meet out.not) < muS out now := by
  unfold muS
  rw [if_neg h]
  have h1 := cnt_or_and out (e.meet out.not)
  have h2 : out.meet (e.meet out.not) = C4.zero := ext_mem fun n _ => by
    rw [meet_mem, meet_mem, not_mem, zero_mem]
    cases out.mem n <;> simp
  rw [h2, cnt_zero] at h1
  have h3 := cnt_le (out.join (e.meet out.not))
  by_cases c : e.meet out.not = C4.zero
  · rw [if_pos c]
    rw [c, cnt_zero] at h1
    rw [c]
    omega
  · rw [if_neg c]
    have := cnt_pos c
    omega
set_option maxRecDepth 100000 in
set_option maxHeartbeats 32000000 in
theorem ends_calls (w0 : World) (hT : TabW w0) (s : List UInt8) (hs : s.length ≤ 200) (N : Nat → Re) (gs gm : Nat) (F : Nat → Prop) (w1 : World) : ∀ (M : Nat) (r : Re), r.size ≤ M → ∀ (k : Nat) (cs : List Value), NumIs F w1 cs (r, k) → Con N r k → k + r.size ≤ 100 → EndsOk w0 s N gs gm F w1 r cs
  | 0, r, h, _, _, _, _, _ => by have := r.size_pos; omega
  | M + 1, r, hM, k, cs, hnum, hcon, hk100 => by
    intro f m n w B hf hmk ho hm
    have IH := ends_calls w0 hT s hs N gs gm F w1 M
    obtain ⟨vk, v, rfl, h1k, hks⟩ := num_iff.1 hnum
    have hNk := con_self hcon
    have hpos := r.size_pos
    have h1v : v.oneCell' = true := by obtain ⟨b, c, rfl, _⟩ := hks; rfl
    have hkey : kit.okI64 (k : Int) ∧ kit.okI64 (f : Int) := ⟨⟨by omega, by omega⟩, by omega, by omega⟩
    have hba := build_at k f
    have hzc := zeroCls
    refine enterB hm (args := [.pointer (some ⟨gs, 0, none⟩), .agg (numC r k vk v).toArray, .int .i64 (f : Int)]) (n := 125) Tryd.func40 rfl rfl rfl ?_
    clear hm
    refine T_seq (T_region (TL_box rfl rfl rfl fun g4 => TL_new rfl fun g6 => ?_))
    conv => arg 8; simp only [zA, zB, zC, zD, zE, zF, zG, zH, zI, rowS, ret, id_eq]
    repeat (first
      | refine qv rfl (qp rfl) rfl rfl ?_ | refine TL_nil ?_ | refine T_seq ?_ | refine T_region ?_ | refine qcT rfl ?_ | refine qcF rfl ?_ | refine T_skip ?_
      | refine T_exit ?_ | refine T_ret ?_ | refine T_block ?_ | refine E_then ?_ | refine E_thenX ?_ | refine E_thenR ?_ | refine E_blockN ?_
      | refine E_blockR ?_ | refine E_blockX ?_ | refine E_blockO rfl ?_ | refine qs rfl rfl rfl rfl rfl rfl ?_
      | ((try refine qg rfl rfl rfl ?_); first | refine qv rfl (qp rfl) rfl rfl ?_ | refine qv rfl (rr_load1 TyC.ty rfl (at_blk (i := 3) rfl rfl)) rfl rfl ?_ | refine qv rfl (rr_build rfl hba) rfl rfl ?_ | refine qv rfl (rr_strlen Und.eq rfl) rfl rfl ?_ | refine qv rfl (qfld FldC.fld rfl rfl) rfl rfl ?_ | refine qv rfl (rr_nilc rfl) rfl rfl ?_ | refine qv rfl (rr_lss rfl rfl (qT (by omega))) rfl rfl ?_ | refine qv rfl (rr_lss rfl rfl (qF (by omega))) rfl rfl ?_ | refine qv rfl (rr_eql rfl rfl (qT (by omega))) rfl rfl ?_ | refine qv rfl (rr_eql rfl rfl (qF (by omega))) rfl rfl ?_ | refine qv rfl (rr_add64 rfl rfl (by omega) (by omega) rfl) rfl rfl ?_))
    refine TL_new rfl fun g7 => ?_
    conv => arg 8; simp only [zA, zB, zC, zD, zE, zF, zG, zH, zI, rowS, ret, id_eq]
    refine TL_storeB (i := 5) (cs' := (atC (k, f)).toArray) rfl rfl rfl rfl rfl rfl ?_
    conv => arg 8; simp only [zA, zB, zC, zD, zE, zF, zG, zH, zI, rowS, ret, id_eq]
    repeat (first
      | refine qv rfl (qp rfl) rfl rfl ?_ | refine TL_nil ?_ | refine T_seq ?_ | refine T_region ?_ | refine qcT rfl ?_ | refine qcF rfl ?_ | refine T_skip ?_
      | refine T_exit ?_ | refine T_ret ?_ | refine T_block ?_ | refine E_then ?_ | refine E_thenX ?_ | refine E_thenR ?_ | refine E_blockN ?_
      | refine E_blockR ?_ | refine E_blockX ?_ | refine E_blockO rfl ?_ | refine qs rfl rfl rfl rfl rfl rfl ?_
      | ((try refine qg rfl rfl rfl ?_); first | refine qv rfl (qp rfl) rfl rfl ?_ | refine qv rfl (rr_strlen Und.eq rfl) rfl rfl ?_ | refine qv rfl (qfld FldC.fld rfl rfl) rfl rfl ?_ | refine qv rfl (rr_nilc rfl) rfl rfl ?_ | refine qv rfl (rr_lss rfl rfl (qT (by omega))) rfl rfl ?_ | refine qv rfl (rr_lss rfl rfl (qF (by omega))) rfl rfl ?_ | refine qv rfl (rr_eql rfl rfl (qT (by omega))) rfl rfl ?_ | refine qv rfl (rr_eql rfl rfl (qF (by omega))) rfl rfl ?_ | refine qv rfl (rr_add64 rfl rfl (by omega) (by omega) rfl) rfl rfl ?_))
    unfold spO mO
    cases e : m ((k : Int), (f : Int)) with
    | some vc =>
      obtain ⟨c, rfl, hc⟩ := hmk.val k f vc (by omega) hf e
      rw [hNk] at hc
      (repeat refine T_seq ?_)
      refine T_ord ([blkO gs #[str s, .map (some gm)] 69, mapO atK gm m n, blkO g7 (atC (k, f)).toArray 77]) (.calm 0 (.calm 1 (.calm 2 (.calm 3 (.calm 4 (.calm 5 (.calm 6 (.calm 7 (.calm 8 (.one 9 (.one 10 (.calm 11 (.done))))))))))))) (sub_pick [0, 1, 5] (by decide) rfl) (by kernel_rfl) (by kernel_rfl) (by intro c a d v w h; cases d <;> exact h) ?_
      repeat (first
        | ((first | refine TW_plain rfl rfl ?_ | refine TW_gmet rfl rfl rfl rfl ?_); first | refine TN_val (qp rfl) rfl rfl ?_ | refine TN_val (rr_nilc rfl) rfl rfl ?_ | refine TN_val (rr_load1 TyC.ty rfl (at_blk (i := 0) rfl rfl)) rfl rfl ?_ | refine TN_val (rr_loadB (i := 2) TyC.ty rfl rfl rfl) rfl rfl ?_ | refine TN_val (rr_lookOkS atK (x := (k, f)) Und.eq hzc (i := 1) rfl rfl rfl hkey e) rfl rfl ?_ | refine TN_val (rr_strlen Und.eq rfl) rfl rfl ?_ | refine TN_val (qfld FldC.fld rfl rfl) rfl rfl ?_ | refine TN_val (rr_nilc rfl) rfl rfl ?_ | refine TN_val (rr_lss rfl rfl (qT (by omega))) rfl rfl ?_ | refine TN_val (rr_lss rfl rfl (qF (by omega))) rfl rfl ?_ | refine TN_val (rr_eql rfl rfl (qT (by omega))) rfl rfl ?_ | refine TN_val (rr_eql rfl rfl (qF (by omega))) rfl rfl ?_ | refine TN_val (rr_add64 rfl rfl (by omega) (by omega) rfl) rfl rfl ?_)
        | refine TW_skip rfl rfl rfl rfl rfl rfl rfl ?_ | refine TW_done ?_)
      refine TW_one rfl (TL_new rfl fun g8 => TW_on (sub_pick [0, 1, 5] (by decide) rfl) ?_)
      refine TW_one rfl (TL_storeB (i := 6) (cs' := (clsL c).toArray) rfl rfl rfl rfl rfl rfl (TW_on (sub_pick [0, 1, 5] (by decide) rfl) ?_))
      repeat (first
        | ((first | refine TW_plain rfl rfl ?_ | refine TW_gmet rfl rfl rfl rfl ?_); first | refine TN_val (qp rfl) rfl rfl ?_ | refine TN_val (rr_strlen Und.eq rfl) rfl rfl ?_ | refine TN_val (qfld FldC.fld rfl rfl) rfl rfl ?_ | refine TN_val (rr_nilc rfl) rfl rfl ?_ | refine TN_val (rr_lss rfl rfl (qT (by omega))) rfl rfl ?_ | refine TN_val (rr_lss rfl rfl (qF (by omega))) rfl rfl ?_ | refine TN_val (rr_eql rfl rfl (qT (by omega))) rfl rfl ?_ | refine TN_val (rr_eql rfl rfl (qF (by omega))) rfl rfl ?_ | refine TN_val (rr_add64 rfl rfl (by omega) (by omega) rfl) rfl rfl ?_)
        | refine TW_skip rfl rfl rfl rfl rfl rfl rfl ?_ | refine TW_done ?_)
      repeat (first
        | refine qv rfl (qp rfl) rfl rfl ?_ | refine TL_nil ?_ | refine T_seq ?_ | refine T_region ?_ | refine qcT rfl ?_ | refine qcF rfl ?_ | refine T_skip ?_
        | refine T_exit ?_ | refine T_ret ?_ | refine T_block ?_ | refine E_then ?_ | refine E_thenX ?_ | refine E_thenR ?_ | refine E_blockN ?_
        | refine E_blockR ?_ | refine E_blockX ?_ | refine E_blockO rfl ?_ | refine qs rfl rfl rfl rfl rfl rfl ?_
        | ((try refine qg rfl rfl rfl ?_); first | refine qv rfl (qp rfl) rfl rfl ?_ | refine qv rfl (rr_loadB (i := 6) TyC.ty rfl rfl rfl) rfl rfl ?_ | refine qv rfl (rr_strlen Und.eq rfl) rfl rfl ?_ | refine qv rfl (qfld FldC.fld rfl rfl) rfl rfl ?_ | refine qv rfl (rr_nilc rfl) rfl rfl ?_ | refine qv rfl (rr_lss rfl rfl (qT (by omega))) rfl rfl ?_ | refine qv rfl (rr_lss rfl rfl (qF (by omega))) rfl rfl ?_ | refine qv rfl (rr_eql rfl rfl (qT (by omega))) rfl rfl ?_ | refine qv rfl (rr_eql rfl rfl (qF (by omega))) rfl rfl ?_ | refine qv rfl (rr_add64 rfl rfl (by omega) (by omega) rfl) rfl rfl ?_))
      refine TL_storeB (i := 4) (cs' := (clsL c).toArray) rfl rfl rfl rfl rfl rfl ?_
      conv => arg 8; simp only [zA, zB, zC, zD, zE, zF, zG, zH, zI, rowS, ret, id_eq]
      repeat (first
        | refine qv rfl (qp rfl) rfl rfl ?_ | refine TL_nil ?_ | refine T_seq ?_ | refine T_region ?_ | refine qcT rfl ?_ | refine qcF rfl ?_ | refine T_skip ?_
        | refine T_exit ?_ | refine T_ret ?_ | refine T_block ?_ | refine E_then ?_ | refine E_thenX ?_ | refine E_thenR ?_ | refine E_blockN ?_
        | refine E_blockR ?_ | refine E_blockX ?_ | refine E_blockO rfl ?_ | refine qs rfl rfl rfl rfl rfl rfl ?_
        | ((try refine qg rfl rfl rfl ?_); first | refine qv rfl (qp rfl) rfl rfl ?_ | refine qv rfl (rr_strlen Und.eq rfl) rfl rfl ?_ | refine qv rfl (qfld FldC.fld rfl rfl) rfl rfl ?_ | refine qv rfl (rr_nilc rfl) rfl rfl ?_ | refine qv rfl (rr_lss rfl rfl (qT (by omega))) rfl rfl ?_ | refine qv rfl (rr_lss rfl rfl (qF (by omega))) rfl rfl ?_ | refine qv rfl (rr_eql rfl rfl (qT (by omega))) rfl rfl ?_ | refine qv rfl (rr_eql rfl rfl (qF (by omega))) rfl rfl ?_ | refine qv rfl (rr_add64 rfl rfl (by omega) (by omega) rfl) rfl rfl ?_))
      refine E_retc1 (i := 4) rfl rfl rfl rfl fun w hm => ?_
      exact hm.meetsB (S := endSp s N gs gm F w1 r f) (c, m, n) ⟨hc, hmk⟩ [0, 1, 2] (by decide) rfl
    | none =>
      (repeat refine T_seq ?_)
      refine T_ord ([blkO gs #[str s, .map (some gm)] 69, mapO atK gm m n, blkO g7 (atC (k, f)).toArray 77]) (.calm 0 (.calm 1 (.calm 2 (.calm 3 (.calm 4 (.calm 5 (.calm 6 (.calm 7 (.calm 8 (.one 9 (.one 10 (.calm 11 (.done))))))))))))) (sub_pick [0, 1, 5] (by decide) rfl) (by kernel_rfl) (by kernel_rfl) (by intro c a d v w h; cases d <;> exact h) ?_
      repeat (first
        | ((first | refine TW_plain rfl rfl ?_ | refine TW_gmet rfl rfl rfl rfl ?_); first | refine TN_val (qp rfl) rfl rfl ?_ | refine TN_val (rr_nilc rfl) rfl rfl ?_ | refine TN_val (rr_load1 TyC.ty rfl (at_blk (i := 0) rfl rfl)) rfl rfl ?_ | refine TN_val (rr_loadB (i := 2) TyC.ty rfl rfl rfl) rfl rfl ?_ | refine TN_val (rr_lookOkN atK (x := (k, f)) Und.eq hzc (i := 1) rfl rfl rfl hkey e) rfl rfl ?_ | refine TN_val (rr_strlen Und.eq rfl) rfl rfl ?_ | refine TN_val (qfld FldC.fld rfl rfl) rfl rfl ?_ | refine TN_val (rr_nilc rfl) rfl rfl ?_ | refine TN_val (rr_lss rfl rfl (qT (by omega))) rfl rfl ?_ | refine TN_val (rr_lss rfl rfl (qF (by omega))) rfl rfl ?_ | refine TN_val (rr_eql rfl rfl (qT (by omega))) rfl rfl ?_ | refine TN_val (rr_eql rfl rfl (qF (by omega))) rfl rfl ?_ | refine TN_val (rr_add64 rfl rfl (by omega) (by omega) rfl) rfl rfl ?_)
        | refine TW_skip rfl rfl rfl rfl rfl rfl rfl ?_ | refine TW_done ?_)
      refine TW_one rfl (TL_new rfl fun g8 => TW_on (sub_pick [0, 1, 5] (by decide) rfl) ?_)
      refine TW_one rfl (TL_storeB (i := 6) (cs' := (clsL C4.zero).toArray) rfl rfl rfl rfl rfl rfl (TW_on (sub_pick [0, 1, 5] (by decide) rfl) ?_))
      repeat (first
        | ((first | refine TW_plain rfl rfl ?_ | refine TW_gmet rfl rfl rfl rfl ?_); first | refine TN_val (qp rfl) rfl rfl ?_ | refine TN_val (rr_strlen Und.eq rfl) rfl rfl ?_ | refine TN_val (qfld FldC.fld rfl rfl) rfl rfl ?_ | refine TN_val (rr_nilc rfl) rfl rfl ?_ | refine TN_val (rr_lss rfl rfl (qT (by omega))) rfl rfl ?_ | refine TN_val (rr_lss rfl rfl (qF (by omega))) rfl rfl ?_ | refine TN_val (rr_eql rfl rfl (qT (by omega))) rfl rfl ?_ | refine TN_val (rr_eql rfl rfl (qF (by omega))) rfl rfl ?_ | refine TN_val (rr_add64 rfl rfl (by omega) (by omega) rfl) rfl rfl ?_)
        | refine TW_skip rfl rfl rfl rfl rfl rfl rfl ?_ | refine TW_done ?_)
      repeat (first
        | refine qv rfl (qp rfl) rfl rfl ?_ | refine TL_nil ?_ | refine T_seq ?_ | refine T_region ?_ | refine qcT rfl ?_ | refine qcF rfl ?_ | refine T_skip ?_
        | refine T_exit ?_ | refine T_ret ?_ | refine T_block ?_ | refine E_then ?_ | refine E_thenX ?_ | refine E_thenR ?_ | refine E_blockN ?_
        | refine E_blockR ?_ | refine E_blockX ?_ | refine E_blockO rfl ?_ | refine qs rfl rfl rfl rfl rfl rfl ?_
        | ((try refine qg rfl rfl rfl ?_); first | refine qv rfl (qp rfl) rfl rfl ?_ | refine qv rfl (rr_strlen Und.eq rfl) rfl rfl ?_ | refine qv rfl (qfld FldC.fld rfl rfl) rfl rfl ?_ | refine qv rfl (rr_nilc rfl) rfl rfl ?_ | refine qv rfl (rr_lss rfl rfl (qT (by omega))) rfl rfl ?_ | refine qv rfl (rr_lss rfl rfl (qF (by omega))) rfl rfl ?_ | refine qv rfl (rr_eql rfl rfl (qT (by omega))) rfl rfl ?_ | refine qv rfl (rr_eql rfl rfl (qF (by omega))) rfl rfl ?_ | refine qv rfl (rr_add64 rfl rfl (by omega) (by omega) rfl) rfl rfl ?_))
      refine TL_new rfl fun g10 => ?_
      conv => arg 8; simp only [zA, zB, zC, zD, zE, zF, zG, zH, zI, rowS, ret, id_eq]
      repeat (first
        | refine qv rfl (qp rfl) rfl rfl ?_ | refine TL_nil ?_ | refine E_then ?_ | refine qs rfl rfl rfl rfl rfl rfl ?_
        | ((try refine qg rfl rfl rfl ?_); first | refine qv rfl (qp rfl) rfl rfl ?_ | refine qv rfl (rr_strlen Und.eq rfl) rfl rfl ?_ | refine qv rfl (qfld FldC.fld rfl rfl) rfl rfl ?_ | refine qv rfl (rr_nilc rfl) rfl rfl ?_ | refine qv rfl (rr_lss rfl rfl (qT (by omega))) rfl rfl ?_ | refine qv rfl (rr_lss rfl rfl (qF (by omega))) rfl rfl ?_ | refine qv rfl (rr_eql rfl rfl (qT (by omega))) rfl rfl ?_ | refine qv rfl (rr_eql rfl rfl (qF (by omega))) rfl rfl ?_ | refine qv rfl (rr_add64 rfl rfl (by omega) (by omega) rfl) rfl rfl ?_))
      (repeat refine T_seq ?_)
      refine T_region ?_
      repeat (first
        | refine qv rfl (qp rfl) rfl rfl ?_ | refine TL_nil ?_ | refine E_then ?_ | refine qs rfl rfl rfl rfl rfl rfl ?_
        | ((try refine qg rfl rfl rfl ?_); first | refine qv rfl (qp rfl) rfl rfl ?_ | refine qv rfl (rr_load1 (v := .int .i64 r.kind) TyC.ty rfl (at_blk (i := 3) rfl rfl)) rfl rfl ?_ | refine qv rfl (rr_strlen Und.eq rfl) rfl rfl ?_ | refine qv rfl (qfld FldC.fld rfl rfl) rfl rfl ?_ | refine qv rfl (rr_nilc rfl) rfl rfl ?_ | refine qv rfl (rr_lss rfl rfl (qT (by omega))) rfl rfl ?_ | refine qv rfl (rr_lss rfl rfl (qF (by omega))) rfl rfl ?_ | refine qv rfl (rr_eql rfl rfl (qT (by omega))) rfl rfl ?_ | refine qv rfl (rr_eql rfl rfl (qF (by omega))) rfl rfl ?_ | refine qv rfl (rr_add64 rfl rfl (by omega) (by omega) rfl) rfl rfl ?_))
      (repeat refine T_seq ?_)
      refine T_midq (ι := EIx) (fun x => EndC s r f x.1 ∧ MOk s N x.2.1 x.2.2) (fun _ => [(0, .pointer (some ⟨gs, 0, none⟩)), (6, .pointer (some ⟨g6, 0, none⟩)), (7, .pointer (some ⟨g7, 0, none⟩)), (10, .pointer (some ⟨g10, 0, none⟩))])
        (fun x => [blkO gs #[str s, .map (some gm)] 69, mapO atK gm x.2.1 x.2.2, frozO F w1, blkO g6 (clsL C4.zero).toArray 27, blkO g7 (atC (k, f)).toArray 77, blkO g10 (clsL x.1).toArray 27]) ?_ ?_
      · cases r with
        | none =>
          conv => arg 6; simp only [Re.kind]
          repeat (first
            | refine qv rfl (qp rfl) rfl rfl ?_ | refine TL_nil ?_ | refine T_seq ?_ | refine T_region ?_ | refine qcT rfl ?_ | refine qcF rfl ?_ | refine T_skip ?_
            | refine T_exit ?_ | refine T_ret ?_ | refine T_block ?_ | refine E_then ?_ | refine E_thenX ?_ | refine E_thenR ?_ | refine E_blockN ?_
            | refine E_blockR ?_ | refine E_blockX ?_ | refine E_blockO rfl ?_ | refine qs rfl rfl rfl rfl rfl rfl ?_
            | ((try refine qg rfl rfl rfl ?_); first | refine qv rfl (qp rfl) rfl rfl ?_ | refine qv rfl (rr_strlen Und.eq rfl) rfl rfl ?_ | refine qv rfl (qfld FldC.fld rfl rfl) rfl rfl ?_ | refine qv rfl (rr_nilc rfl) rfl rfl ?_ | refine qv rfl (rr_lss rfl rfl (qT (by omega))) rfl rfl ?_ | refine qv rfl (rr_lss rfl rfl (qF (by omega))) rfl rfl ?_ | refine qv rfl (rr_eql rfl rfl (qT (by omega))) rfl rfl ?_ | refine qv rfl (rr_eql rfl rfl (qF (by omega))) rfl rfl ?_ | refine qv rfl (rr_add64 rfl rfl (by omega) (by omega) rfl) rfl rfl ?_))
          refine E_pick [0, 1, 2, 4, 5, 7] (by decide) rfl ?_
          exact E_mid (C4.zero, m, n) ⟨endC_zero fun j h => h.2.2, hmk⟩ (by repeat' (first | exact True.intro | refine And.intro rfl ?_)) rfl
        | empty =>
          conv => arg 6; simp only [Re.kind]
          have hrg := fun w => rangeE f f hkey.2 hkey.2 w
          repeat (first
            | refine qv rfl (qp rfl) rfl rfl ?_ | refine TL_nil ?_ | refine T_seq ?_ | refine T_region ?_ | refine qcT rfl ?_ | refine qcF rfl ?_ | refine T_skip ?_
            | refine T_exit ?_ | refine T_ret ?_ | refine T_block ?_ | refine E_then ?_ | refine E_thenX ?_ | refine E_thenR ?_ | refine E_blockN ?_
            | refine E_blockR ?_ | refine E_blockX ?_ | refine E_blockO rfl ?_ | refine qs rfl rfl rfl rfl rfl rfl ?_
            | ((try refine qg rfl rfl rfl ?_); first | refine qv rfl (qp rfl) rfl rfl ?_ | refine qv rfl (rr_strlen Und.eq rfl) rfl rfl ?_ | refine qv rfl (qfld FldC.fld rfl rfl) rfl rfl ?_ | refine qv rfl (rr_nilc rfl) rfl rfl ?_ | refine qv rfl (rr_lss rfl rfl (qT (by omega))) rfl rfl ?_ | refine qv rfl (rr_lss rfl rfl (qF (by omega))) rfl rfl ?_ | refine qv rfl (rr_eql rfl rfl (qT (by omega))) rfl rfl ?_ | refine qv rfl (rr_eql rfl rfl (qF (by omega))) rfl rfl ?_ | refine qv rfl (rr_add64 rfl rfl (by omega) (by omega) rfl) rfl rfl ?_))
          refine TL_call (he2 EntersC.en rfl rfl rfl) (fun w hm => hrg _) rfl rfl rfl ?_
          intro _ _
          conv => arg 8; simp only [zA, zB, zC, zD, zE, zF, zG, zH, zI, rowS, ret, id_eq]
          refine TL_storeB (i := 7) (cs' := (clsL (rangeF f f)).toArray) rfl rfl rfl rfl rfl rfl ?_
          conv => arg 8; simp only [zA, zB, zC, zD, zE, zF, zG, zH, zI, rowS, ret, id_eq]
          repeat (first
            | refine qv rfl (qp rfl) rfl rfl ?_ | refine TL_nil ?_ | refine T_seq ?_ | refine T_region ?_ | refine qcT rfl ?_ | refine qcF rfl ?_ | refine T_skip ?_
            | refine T_exit ?_ | refine T_ret ?_ | refine T_block ?_ | refine E_then ?_ | refine E_thenX ?_ | refine E_thenR ?_ | refine E_blockN ?_
            | refine E_blockR ?_ | refine E_blockX ?_ | refine E_blockO rfl ?_ | refine qs rfl rfl rfl rfl rfl rfl ?_
            | ((try refine qg rfl rfl rfl ?_); first | refine qv rfl (qp rfl) rfl rfl ?_ | refine qv rfl (rr_strlen Und.eq rfl) rfl rfl ?_ | refine qv rfl (qfld FldC.fld rfl rfl) rfl rfl ?_ | refine qv rfl (rr_nilc rfl) rfl rfl ?_ | refine qv rfl (rr_lss rfl rfl (qT (by omega))) rfl rfl ?_ | refine qv rfl (rr_lss rfl rfl (qF (by omega))) rfl rfl ?_ | refine qv rfl (rr_eql rfl rfl (qT (by omega))) rfl rfl ?_ | refine qv rfl (rr_eql rfl rfl (qF (by omega))) rfl rfl ?_ | refine qv rfl (rr_add64 rfl rfl (by omega) (by omega) rfl) rfl rfl ?_))
          refine E_pick [0, 1, 2, 4, 5, 7] (by decide) rfl ?_
          exact E_mid (rangeF f f, m, n) ⟨endC_range fun j => end_empty hf, hmk⟩ (by repeat' (first | exact True.intro | refine And.intro rfl ?_)) rfl
        | byte c =>
          conv => arg 6; simp only [Re.kind]
          by_cases c1 : f < s.length
          · have hrg := fun w => rangeE ((f + 1 : Nat) : Int) ((f + 1 : Nat) : Int) ⟨by omega, by omega⟩ ⟨by omega, by omega⟩ w
            have hb : s[((f : Int)).toNat]? = some s[f] := by rw [Int.toNat_natCast]; exact List.getElem?_eq_getElem c1
            have hh := fun w => has_calls c (s[f]).toNat (s[f]).toNat_lt w
            have hend : ∀ j, EndP (.byte c) s f j ↔ j = f + 1 ∧ c.mem (s[f]).toNat = true := fun j => by rw [end_byte]; exact ⟨fun ⟨_, h⟩ => h, fun h => ⟨c1, h⟩⟩
            generalize s[f] = b at *
            generalize hD : c.mem b.toNat = D at *
            repeat (first
              | refine qv rfl (qp rfl) rfl rfl ?_ | refine TL_nil ?_ | refine T_seq ?_ | refine T_region ?_ | refine qcT rfl ?_ | refine qcF rfl ?_ | refine T_skip ?_
              | refine T_exit ?_ | refine T_ret ?_ | refine T_block ?_ | refine E_then ?_ | refine E_thenX ?_ | refine E_thenR ?_ | refine E_blockN ?_
              | refine E_blockR ?_ | refine E_blockX ?_ | refine E_blockO rfl ?_ | refine qs rfl rfl rfl rfl rfl rfl ?_
              | ((try refine qg rfl rfl rfl ?_); first | refine qv rfl (qp rfl) rfl rfl ?_ | refine qv rfl (rr_strlen Und.eq rfl) rfl rfl ?_ | refine qv rfl (qfld FldC.fld rfl rfl) rfl rfl ?_ | refine qv rfl (rr_nilc rfl) rfl rfl ?_ | refine qv rfl (rr_lss rfl rfl (qT (by omega))) rfl rfl ?_ | refine qv rfl (rr_lss rfl rfl (qF (by omega))) rfl rfl ?_ | refine qv rfl (rr_eql rfl rfl (qT (by omega))) rfl rfl ?_ | refine qv rfl (rr_eql rfl rfl (qF (by omega))) rfl rfl ?_ | refine qv rfl (rr_add64 rfl rfl (by omega) (by omega) rfl) rfl rfl ?_))
            (repeat refine T_seq ?_)
            refine T_ord ([blkO gs #[str s, .map (some gm)] 69, blkO g4 (numC (.byte c) k vk v).toArray 73]) (.calm 0 (.calm 1 (.calm 2 (.calm 3 (.calm 4 (.calm 5 (.calm 6 (.calm 7 (.calm 8 (.calm 9 (.calm 10 (.calm 11 (.calm 12 (.calm 13 (.calm 14 (.calm 15 (.calm 16 (.calm 17 (.calm 18 (.done)))))))))))))))))))) (sub_pick [0, 3] (by decide) rfl) (by kernel_rfl) (by kernel_rfl) (by intro c a d v w h; cases d <;> exact h) ?_
            repeat (first
              | ((first | refine TW_plain rfl rfl ?_ | refine TW_gmet rfl rfl rfl rfl ?_); first | refine TN_val (qp rfl) rfl rfl ?_ | refine TN_val (rr_nilc rfl) rfl rfl ?_ | refine TN_val (rr_load1 TyC.ty rfl (at_blk (i := 0) rfl rfl)) rfl rfl ?_ | refine TN_val (rr_strlen Und.eq rfl) rfl rfl ?_ | refine TN_val (rr_loadN (cs := clsL c) TyC.ty rfl rfl (fun j v hj => at_blk (i := 1) rfl (num_cls (r := .byte c) hj))) rfl rfl ?_ | refine TN_val (rr_strlen Und.eq rfl) rfl rfl ?_ | refine TN_val (qfld FldC.fld rfl rfl) rfl rfl ?_ | refine TN_val (rr_nilc rfl) rfl rfl ?_ | refine TN_val (rr_lss rfl rfl (qT (by omega))) rfl rfl ?_ | refine TN_val (rr_lss rfl rfl (qF (by omega))) rfl rfl ?_ | refine TN_val (rr_eql rfl rfl (qT (by omega))) rfl rfl ?_ | refine TN_val (rr_eql rfl rfl (qF (by omega))) rfl rfl ?_ | refine TN_val (rr_add64 rfl rfl (by omega) (by omega) rfl) rfl rfl ?_ | refine TN_val (rr_stridx Und.eq rfl rfl (by omega) hb) rfl rfl ?_)
              | refine TW_skip rfl rfl rfl rfl rfl rfl rfl ?_ | refine TW_done ?_)
            refine TW_gcall rfl (he2 EntersC.en rfl rfl rfl) (fun w hm => hh _) rfl rfl rfl rfl rfl ?_
            repeat (first
              | ((first | refine TW_plain rfl rfl ?_ | refine TW_gmet rfl rfl rfl rfl ?_); first | refine TN_val (qp rfl) rfl rfl ?_ | refine TN_val (rr_strlen Und.eq rfl) rfl rfl ?_ | refine TN_val (qfld FldC.fld rfl rfl) rfl rfl ?_ | refine TN_val (rr_nilc rfl) rfl rfl ?_ | refine TN_val (rr_lss rfl rfl (qT (by omega))) rfl rfl ?_ | refine TN_val (rr_lss rfl rfl (qF (by omega))) rfl rfl ?_ | refine TN_val (rr_eql rfl rfl (qT (by omega))) rfl rfl ?_ | refine TN_val (rr_eql rfl rfl (qF (by omega))) rfl rfl ?_ | refine TN_val (rr_add64 rfl rfl (by omega) (by omega) rfl) rfl rfl ?_)
              | refine TW_skip rfl rfl rfl rfl rfl rfl rfl ?_ | refine TW_done ?_)
            cases D with
            | true =>
              repeat (first
                | refine qv rfl (qp rfl) rfl rfl ?_ | refine TL_nil ?_ | refine T_seq ?_ | refine T_region ?_ | refine qcT rfl ?_ | refine qcF rfl ?_ | refine T_skip ?_
                | refine T_exit ?_ | refine T_ret ?_ | refine T_block ?_ | refine E_then ?_ | refine E_thenX ?_ | refine E_thenR ?_ | refine E_blockN ?_
                | refine E_blockR ?_ | refine E_blockX ?_ | refine E_blockO rfl ?_ | refine qs rfl rfl rfl rfl rfl rfl ?_
                | ((try refine qg rfl rfl rfl ?_); first | refine qv rfl (qp rfl) rfl rfl ?_ | refine qv rfl (rr_add64 (r := ((f + 1 : Nat) : Int)) rfl rfl (by omega) (by omega) (by omega)) rfl rfl ?_ | refine qv rfl (rr_strlen Und.eq rfl) rfl rfl ?_ | refine qv rfl (qfld FldC.fld rfl rfl) rfl rfl ?_ | refine qv rfl (rr_nilc rfl) rfl rfl ?_ | refine qv rfl (rr_lss rfl rfl (qT (by omega))) rfl rfl ?_ | refine qv rfl (rr_lss rfl rfl (qF (by omega))) rfl rfl ?_ | refine qv rfl (rr_eql rfl rfl (qT (by omega))) rfl rfl ?_ | refine qv rfl (rr_eql rfl rfl (qF (by omega))) rfl rfl ?_ | refine qv rfl (rr_add64 rfl rfl (by omega) (by omega) rfl) rfl rfl ?_))
              refine TL_call (he2 EntersC.en rfl rfl rfl) (fun w hm => hrg _) rfl rfl rfl ?_
              intro _ _
              conv => arg 8; simp only [zA, zB, zC, zD, zE, zF, zG, zH, zI, rowS, ret, id_eq]
              refine TL_storeB (i := 7) (cs' := (clsL (rangeF ((f + 1 : Nat) : Int) ((f + 1 : Nat) : Int))).toArray) rfl rfl rfl rfl rfl rfl ?_
              conv => arg 8; simp only [zA, zB, zC, zD, zE, zF, zG, zH, zI, rowS, ret, id_eq]
              repeat (first
                | refine qv rfl (qp rfl) rfl rfl ?_ | refine TL_nil ?_ | refine T_seq ?_ | refine T_region ?_ | refine qcT rfl ?_ | refine qcF rfl ?_ | refine T_skip ?_
                | refine T_exit ?_ | refine T_ret ?_ | refine T_block ?_ | refine E_then ?_ | refine E_thenX ?_ | refine E_thenR ?_ | refine E_blockN ?_
                | refine E_blockR ?_ | refine E_blockX ?_ | refine E_blockO rfl ?_ | refine qs rfl rfl rfl rfl rfl rfl ?_
                | ((try refine qg rfl rfl rfl ?_); first | refine qv rfl (qp rfl) rfl rfl ?_ | refine qv rfl (rr_strlen Und.eq rfl) rfl rfl ?_ | refine qv rfl (qfld FldC.fld rfl rfl) rfl rfl ?_ | refine qv rfl (rr_nilc rfl) rfl rfl ?_ | refine qv rfl (rr_lss rfl rfl (qT (by omega))) rfl rfl ?_ | refine qv rfl (rr_lss rfl rfl (qF (by omega))) rfl rfl ?_ | refine qv rfl (rr_eql rfl rfl (qT (by omega))) rfl rfl ?_ | refine qv rfl (rr_eql rfl rfl (qF (by omega))) rfl rfl ?_ | refine qv rfl (rr_add64 rfl rfl (by omega) (by omega) rfl) rfl rfl ?_))
              refine E_pick [0, 1, 2, 4, 5, 7] (by decide) rfl ?_
              exact E_mid (rangeF ((f + 1 : Nat) : Int) ((f + 1 : Nat) : Int), m, n) ⟨endC_range fun j => by rw [hend]; simp, hmk⟩ (by repeat' (first | exact True.intro | refine And.intro rfl ?_)) rfl
            | false =>
              repeat (first
                | refine qv rfl (qp rfl) rfl rfl ?_ | refine TL_nil ?_ | refine T_seq ?_ | refine T_region ?_ | refine qcT rfl ?_ | refine qcF rfl ?_ | refine T_skip ?_
                | refine T_exit ?_ | refine T_ret ?_ | refine T_block ?_ | refine E_then ?_ | refine E_thenX ?_ | refine E_thenR ?_ | refine E_blockN ?_
                | refine E_blockR ?_ | refine E_blockX ?_ | refine E_blockO rfl ?_ | refine qs rfl rfl rfl rfl rfl rfl ?_
                | ((try refine qg rfl rfl rfl ?_); first | refine qv rfl (qp rfl) rfl rfl ?_ | refine qv rfl (rr_strlen Und.eq rfl) rfl rfl ?_ | refine qv rfl (qfld FldC.fld rfl rfl) rfl rfl ?_ | refine qv rfl (rr_nilc rfl) rfl rfl ?_ | refine qv rfl (rr_lss rfl rfl (qT (by omega))) rfl rfl ?_ | refine qv rfl (rr_lss rfl rfl (qF (by omega))) rfl rfl ?_ | refine qv rfl (rr_eql rfl rfl (qT (by omega))) rfl rfl ?_ | refine qv rfl (rr_eql rfl rfl (qF (by omega))) rfl rfl ?_ | refine qv rfl (rr_add64 rfl rfl (by omega) (by omega) rfl) rfl rfl ?_))
              refine E_pick [0, 1, 2, 4, 5, 7] (by decide) rfl ?_
              exact E_mid (C4.zero, m, n) ⟨endC_zero fun j h => by have := (hend j).1 h; simp at this, hmk⟩ (by repeat' (first | exact True.intro | refine And.intro rfl ?_)) rfl
          · have hend : ∀ j, ¬ EndP (.byte c) s f j := fun j h => by rw [end_byte] at h; exact c1 h.1
            repeat (first
              | refine qv rfl (qp rfl) rfl rfl ?_ | refine TL_nil ?_ | refine T_seq ?_ | refine T_region ?_ | refine qcT rfl ?_ | refine qcF rfl ?_ | refine T_skip ?_
              | refine T_exit ?_ | refine T_ret ?_ | refine T_block ?_ | refine E_then ?_ | refine E_thenX ?_ | refine E_thenR ?_ | refine E_blockN ?_
              | refine E_blockR ?_ | refine E_blockX ?_ | refine E_blockO rfl ?_ | refine qs rfl rfl rfl rfl rfl rfl ?_
              | ((try refine qg rfl rfl rfl ?_); first | refine qv rfl (qp rfl) rfl rfl ?_ | refine qv rfl (rr_strlen Und.eq rfl) rfl rfl ?_ | refine qv rfl (qfld FldC.fld rfl rfl) rfl rfl ?_ | refine qv rfl (rr_nilc rfl) rfl rfl ?_ | refine qv rfl (rr_lss rfl rfl (qT (by omega))) rfl rfl ?_ | refine qv rfl (rr_lss rfl rfl (qF (by omega))) rfl rfl ?_ | refine qv rfl (rr_eql rfl rfl (qT (by omega))) rfl rfl ?_ | refine qv rfl (rr_eql rfl rfl (qF (by omega))) rfl rfl ?_ | refine qv rfl (rr_add64 rfl rfl (by omega) (by omega) rfl) rfl rfl ?_))
            (repeat refine T_seq ?_)
            refine T_ord ([blkO gs #[str s, .map (some gm)] 69, blkO g4 (numC (.byte c) k vk v).toArray 73]) (.calm 0 (.calm 1 (.calm 2 (.calm 3 (.calm 4 (.calm 5 (.calm 6 (.calm 7 (.calm 8 (.calm 9 (.calm 10 (.calm 11 (.calm 12 (.calm 13 (.calm 14 (.calm 15 (.calm 16 (.calm 17 (.calm 18 (.done)))))))))))))))))))) (sub_pick [0, 3] (by decide) rfl) (by kernel_rfl) (by kernel_rfl) (by intro c a d v w h; cases d <;> exact h) ?_
            repeat (first
              | ((first | refine TW_plain rfl rfl ?_ | refine TW_gmet rfl rfl rfl rfl ?_); first | refine TN_val (qp rfl) rfl rfl ?_ | refine TN_val (rr_nilc rfl) rfl rfl ?_ | refine TN_val (rr_load1 TyC.ty rfl (at_blk (i := 0) rfl rfl)) rfl rfl ?_ | refine TN_val (rr_strlen Und.eq rfl) rfl rfl ?_ | refine TN_val (rr_strlen Und.eq rfl) rfl rfl ?_ | refine TN_val (qfld FldC.fld rfl rfl) rfl rfl ?_ | refine TN_val (rr_nilc rfl) rfl rfl ?_ | refine TN_val (rr_lss rfl rfl (qT (by omega))) rfl rfl ?_ | refine TN_val (rr_lss rfl rfl (qF (by omega))) rfl rfl ?_ | refine TN_val (rr_eql rfl rfl (qT (by omega))) rfl rfl ?_ | refine TN_val (rr_eql rfl rfl (qF (by omega))) rfl rfl ?_ | refine TN_val (rr_add64 rfl rfl (by omega) (by omega) rfl) rfl rfl ?_)
              | refine TW_skip rfl rfl rfl rfl rfl rfl rfl ?_ | refine TW_done ?_)
            repeat (first
              | refine qv rfl (qp rfl) rfl rfl ?_ | refine TL_nil ?_ | refine T_seq ?_ | refine T_region ?_ | refine qcT rfl ?_ | refine qcF rfl ?_ | refine T_skip ?_
              | refine T_exit ?_ | refine T_ret ?_ | refine T_block ?_ | refine E_then ?_ | refine E_thenX ?_ | refine E_thenR ?_ | refine E_blockN ?_
              | refine E_blockR ?_ | refine E_blockX ?_ | refine E_blockO rfl ?_ | refine qs rfl rfl rfl rfl rfl rfl ?_
              | ((try refine qg rfl rfl rfl ?_); first | refine qv rfl (qp rfl) rfl rfl ?_ | refine qv rfl (rr_strlen Und.eq rfl) rfl rfl ?_ | refine qv rfl (qfld FldC.fld rfl rfl) rfl rfl ?_ | refine qv rfl (rr_nilc rfl) rfl rfl ?_ | refine qv rfl (rr_lss rfl rfl (qT (by omega))) rfl rfl ?_ | refine qv rfl (rr_lss rfl rfl (qF (by omega))) rfl rfl ?_ | refine qv rfl (rr_eql rfl rfl (qT (by omega))) rfl rfl ?_ | refine qv rfl (rr_eql rfl rfl (qF (by omega))) rfl rfl ?_ | refine qv rfl (rr_add64 rfl rfl (by omega) (by omega) rfl) rfl rfl ?_))
            refine E_pick [0, 1, 2, 4, 5, 7] (by decide) rfl ?_
            exact E_mid (C4.zero, m, n) ⟨endC_zero hend, hmk⟩ (by repeat' (first | exact True.intro | refine And.intro rfl ?_)) rfl
        | alt a b =>
          conv => arg 6; simp only [Re.kind]
          obtain ⟨bk, off, cap, rfl, hF, hkid⟩ := nkid_at hks (by show 0 < 2; omega)
          obtain ⟨vk0, v0, r0, o0, p0, n0⟩ := hkid 0 (by show 0 < 2; omega)
          obtain ⟨vk1, v1, r1, o1, p1, n1⟩ := hkid 1 (by show 1 < 2; omega)
          replace r0 : Rd w1 bk (off + 0 * 8) (numC a (k + 1) vk0 v0) := r0
          replace r1 : Rd w1 bk (off + 1 * 8) (numC b (k + 1 + a.size) vk1 v1) := r1
          have k0 := con_kid hcon (j := 0) (by show 0 < 2; omega)
          have k1 := con_kid hcon (j := 1) (by show 1 < 2; omega)
          have E0 : EndsOk w0 s N gs gm F w1 a (numC a (k + 1) vk0 v0) := IH a (by have : a.size < (Re.alt a b).size := k0.2.2; omega) (k + 1) _ n0 k0.1 (by have : k + 1 + a.size ≤ k + (Re.alt a b).size := k0.2.1; omega)
          have E1 : EndsOk w0 s N gs gm F w1 b (numC b (k + 1 + a.size) vk1 v1) := IH b (by have : b.size < (Re.alt a b).size := k1.2.2; omega) (k + 1 + a.size) _ n1 k1.1 (by have : k + 1 + a.size + b.size ≤ k + (Re.alt a b).size := k1.2.1; omega)
          clear hkid IH
          repeat (first
            | refine qv rfl (qp rfl) rfl rfl ?_ | refine TL_nil ?_ | refine T_seq ?_ | refine T_region ?_ | refine qcT rfl ?_ | refine qcF rfl ?_ | refine T_skip ?_
            | refine T_exit ?_ | refine T_ret ?_ | refine T_block ?_ | refine E_then ?_ | refine E_thenX ?_ | refine E_thenR ?_ | refine E_blockN ?_
            | refine E_blockR ?_ | refine E_blockX ?_ | refine E_blockO rfl ?_ | refine qs rfl rfl rfl rfl rfl rfl ?_
            | ((try refine qg rfl rfl rfl ?_); first | refine qv rfl (qp rfl) rfl rfl ?_ | refine qv rfl (rr_strlen Und.eq rfl) rfl rfl ?_ | refine qv rfl (qfld FldC.fld rfl rfl) rfl rfl ?_ | refine qv rfl (rr_nilc rfl) rfl rfl ?_ | refine qv rfl (rr_lss rfl rfl (qT (by omega))) rfl rfl ?_ | refine qv rfl (rr_lss rfl rfl (qF (by omega))) rfl rfl ?_ | refine qv rfl (rr_eql rfl rfl (qT (by omega))) rfl rfl ?_ | refine qv rfl (rr_eql rfl rfl (qF (by omega))) rfl rfl ?_ | refine qv rfl (rr_add64 rfl rfl (by omega) (by omega) rfl) rfl rfl ?_))
          (repeat refine T_seq ?_)
          refine T_ord ([frozO F w1, blkO g4 (numC (.alt a b) k vk (.slice (some ⟨bk, off, none⟩) 2 cap)).toArray 73]) (.calm 0 (.calm 1 (.calm 2 (.calm 3 (.calm 4 (.calm 5 (.calm 7 (.calm 8 (.calm 9 (.calm 10 (.calm 11 (.calm 12 (.one 6 (.one 13 (.calm 14 (.one 15 (.done))))))))))))))))) (sub_pick [2, 3] (by decide) rfl) (by kernel_rfl) (by kernel_rfl) (by intro c a d v w h; cases d <;> exact h) ?_
          repeat (first
            | ((first | refine TW_plain rfl rfl ?_ | refine TW_gmet rfl rfl rfl rfl ?_); first | refine TN_val (qp rfl) rfl rfl ?_ | refine TN_val (rr_load1 (v := .slice (some ⟨bk, off, none⟩) 2 cap) TyC.ty rfl (at_blk (i := 1) rfl rfl)) rfl rfl ?_ | refine TN_val (rr_idxc (j := 0) Und.eq TyC.ty rfl rfl (by decide)) rfl rfl ?_ | refine TN_val (rr_idxc (j := 1) Und.eq TyC.ty rfl rfl (by decide)) rfl rfl ?_ | refine TN_val (rr_loadN (cs := numC a (k + 1) vk0 v0) TyC.ty rfl rfl (at_froz (i := 0) rfl hF r0)) rfl rfl ?_ | refine TN_val (rr_loadN (cs := numC b (k + 1 + a.size) vk1 v1) TyC.ty rfl rfl (at_froz (i := 0) rfl hF r1)) rfl rfl ?_ | refine TN_val (rr_strlen Und.eq rfl) rfl rfl ?_ | refine TN_val (qfld FldC.fld rfl rfl) rfl rfl ?_ | refine TN_val (rr_nilc rfl) rfl rfl ?_ | refine TN_val (rr_lss rfl rfl (qT (by omega))) rfl rfl ?_ | refine TN_val (rr_lss rfl rfl (qF (by omega))) rfl rfl ?_ | refine TN_val (rr_eql rfl rfl (qT (by omega))) rfl rfl ?_ | refine TN_val (rr_eql rfl rfl (qF (by omega))) rfl rfl ?_ | refine TN_val (rr_add64 rfl rfl (by omega) (by omega) rfl) rfl rfl ?_)
            | refine TW_skip rfl rfl rfl rfl rfl rfl rfl ?_ | refine TW_done ?_)
          refine TW_one rfl (TL_callB [0, 1, 2] [3, 4, 5, 6, 7] (by decide) rfl rfl (he3 EntersC.en rfl rfl rfl rfl) (fun w hm hb => E0 f m n w _ hf hmk (ho.on hm (by intro o ho; simp [spO, mO] at ho ⊢; rcases ho with h | h | h <;> simp [h])) hb) rfl rfl rfl ?_)
          rintro ⟨x, m', n'⟩ ⟨hx, hmk'⟩
          conv => arg 8; simp only [zA, zB, zC, zD, zE, zF, zG, zH, zI, rowS, ret, id_eq, endSp]
          refine TW_on (sub_pick [7, 0] (by decide) rfl) ?_
          refine TW_one rfl (TL_callB [5, 6, 7] [0, 1, 2, 3, 4] (by decide) rfl rfl (he3 EntersC.en rfl rfl rfl rfl) (fun w hm hb => E1 f m' n' w _ hf hmk' (ho.on hm (by intro o ho; simp [spO, mO] at ho ⊢; rcases ho with h | h | h <;> simp [h])) hb) rfl rfl rfl ?_)
          rintro ⟨y, m'', n''⟩ ⟨hy, hmk''⟩
          conv => arg 8; simp only [zA, zB, zC, zD, zE, zF, zG, zH, zI, rowS, ret, id_eq, endSp]
          refine TW_on (sub_pick [7, 0] (by decide) rfl) ?_
          repeat (first
            | ((first | refine TW_plain rfl rfl ?_ | refine TW_gmet rfl rfl rfl rfl ?_); first | refine TN_val (qp rfl) rfl rfl ?_ | refine TN_val (rr_strlen Und.eq rfl) rfl rfl ?_ | refine TN_val (qfld FldC.fld rfl rfl) rfl rfl ?_ | refine TN_val (rr_nilc rfl) rfl rfl ?_ | refine TN_val (rr_lss rfl rfl (qT (by omega))) rfl rfl ?_ | refine TN_val (rr_lss rfl rfl (qF (by omega))) rfl rfl ?_ | refine TN_val (rr_eql rfl rfl (qT (by omega))) rfl rfl ?_ | refine TN_val (rr_eql rfl rfl (qF (by omega))) rfl rfl ?_ | refine TN_val (rr_add64 rfl rfl (by omega) (by omega) rfl) rfl rfl ?_)
            | refine TW_skip rfl rfl rfl rfl rfl rfl rfl ?_ | refine TW_done ?_)
          refine TW_call rfl (he2 EntersC.en rfl rfl rfl) (fun w hm => joinE x y _) rfl rfl rfl ?_
          refine TW_one rfl (TL_storeB (i := 4) (cs' := (clsL (x.join y)).toArray) rfl rfl rfl rfl rfl rfl (TW_on (sub_pick [7, 0] (by decide) rfl) ?_))
          repeat (first
            | ((first | refine TW_plain rfl rfl ?_ | refine TW_gmet rfl rfl rfl rfl ?_); first | refine TN_val (qp rfl) rfl rfl ?_ | refine TN_val (rr_strlen Und.eq rfl) rfl rfl ?_ | refine TN_val (qfld FldC.fld rfl rfl) rfl rfl ?_ | refine TN_val (rr_nilc rfl) rfl rfl ?_ | refine TN_val (rr_lss rfl rfl (qT (by omega))) rfl rfl ?_ | refine TN_val (rr_lss rfl rfl (qF (by omega))) rfl rfl ?_ | refine TN_val (rr_eql rfl rfl (qT (by omega))) rfl rfl ?_ | refine TN_val (rr_eql rfl rfl (qF (by omega))) rfl rfl ?_ | refine TN_val (rr_add64 rfl rfl (by omega) (by omega) rfl) rfl rfl ?_)
            | refine TW_skip rfl rfl rfl rfl rfl rfl rfl ?_ | refine TW_done ?_)
          repeat (first
            | refine qv rfl (qp rfl) rfl rfl ?_ | refine TL_nil ?_ | refine T_seq ?_ | refine T_region ?_ | refine qcT rfl ?_ | refine qcF rfl ?_ | refine T_skip ?_
            | refine T_exit ?_ | refine T_ret ?_ | refine T_block ?_ | refine E_then ?_ | refine E_thenX ?_ | refine E_thenR ?_ | refine E_blockN ?_
            | refine E_blockR ?_ | refine E_blockX ?_ | refine E_blockO rfl ?_ | refine qs rfl rfl rfl rfl rfl rfl ?_
            | ((try refine qg rfl rfl rfl ?_); first | refine qv rfl (qp rfl) rfl rfl ?_ | refine qv rfl (rr_strlen Und.eq rfl) rfl rfl ?_ | refine qv rfl (qfld FldC.fld rfl rfl) rfl rfl ?_ | refine qv rfl (rr_nilc rfl) rfl rfl ?_ | refine qv rfl (rr_lss rfl rfl (qT (by omega))) rfl rfl ?_ | refine qv rfl (rr_lss rfl rfl (qF (by omega))) rfl rfl ?_ | refine qv rfl (rr_eql rfl rfl (qT (by omega))) rfl rfl ?_ | refine qv rfl (rr_eql rfl rfl (qF (by omega))) rfl rfl ?_ | refine qv rfl (rr_add64 rfl rfl (by omega) (by omega) rfl) rfl rfl ?_))
          refine E_pick [5, 6, 7, 1, 2, 4] (by decide) rfl ?_
          exact E_mid (x.join y, m'', n'') ⟨endC_alt hx hy, hmk''⟩ (by repeat' (first | exact True.intro | refine And.intro rfl ?_)) rfl
        | cat a b =>
          conv => arg 6; simp only [Re.kind]
          obtain ⟨bk, off, cap, rfl, hF, hkid⟩ := nkid_at hks (by show 0 < 2; omega)
          obtain ⟨vk0, v0, r0, o0, p0, n0⟩ := hkid 0 (by show 0 < 2; omega)
          obtain ⟨vk1, v1, r1, o1, p1, n1⟩ := hkid 1 (by show 1 < 2; omega)
          replace r0 : Rd w1 bk (off + 0 * 8) (numC a (k + 1) vk0 v0) := r0
          replace r1 : Rd w1 bk (off + 1 * 8) (numC b (k + 1 + a.size) vk1 v1) := r1
          have k0 := con_kid hcon (j := 0) (by show 0 < 2; omega)
          have k1 := con_kid hcon (j := 1) (by show 1 < 2; omega)
          have E0 : EndsOk w0 s N gs gm F w1 a (numC a (k + 1) vk0 v0) := IH a (by have : a.size < (Re.cat a b).size := k0.2.2; omega) (k + 1) _ n0 k0.1 (by have : k + 1 + a.size ≤ k + (Re.cat a b).size := k0.2.1; omega)
          have E1 : EndsOk w0 s N gs gm F w1 b (numC b (k + 1 + a.size) vk1 v1) := IH b (by have : b.size < (Re.cat a b).size := k1.2.2; omega) (k + 1 + a.size) _ n1 k1.1 (by have : k + 1 + a.size + b.size ≤ k + (Re.cat a b).size := k1.2.1; omega)
          clear hkid IH
          repeat (first
            | refine qv rfl (qp rfl) rfl rfl ?_ | refine TL_nil ?_ | refine T_seq ?_ | refine T_region ?_ | refine qcT rfl ?_ | refine qcF rfl ?_ | refine T_skip ?_
            | refine T_exit ?_ | refine T_ret ?_ | refine T_block ?_ | refine E_then ?_ | refine E_thenX ?_ | refine E_thenR ?_ | refine E_blockN ?_
            | refine E_blockR ?_ | refine E_blockX ?_ | refine E_blockO rfl ?_ | refine qs rfl rfl rfl rfl rfl rfl ?_
            | ((try refine qg rfl rfl rfl ?_); first | refine qv rfl (qp rfl) rfl rfl ?_ | refine qv rfl (rr_strlen Und.eq rfl) rfl rfl ?_ | refine qv rfl (qfld FldC.fld rfl rfl) rfl rfl ?_ | refine qv rfl (rr_nilc rfl) rfl rfl ?_ | refine qv rfl (rr_lss rfl rfl (qT (by omega))) rfl rfl ?_ | refine qv rfl (rr_lss rfl rfl (qF (by omega))) rfl rfl ?_ | refine qv rfl (rr_eql rfl rfl (qT (by omega))) rfl rfl ?_ | refine qv rfl (rr_eql rfl rfl (qF (by omega))) rfl rfl ?_ | refine qv rfl (rr_add64 rfl rfl (by omega) (by omega) rfl) rfl rfl ?_))
          (repeat refine T_seq ?_)
          refine T_ord ([frozO F w1, blkO g4 (numC (.cat a b) k vk (.slice (some ⟨bk, off, none⟩) 2 cap)).toArray 73]) (.calm 0 (.calm 1 (.calm 2 (.calm 3 (.calm 4 (.calm 5 (.calm 6 (.calm 8 (.calm 9 (.calm 10 (.calm 11 (.one 7 (.one 12 (.one 13 (.done))))))))))))))) (sub_pick [2, 3] (by decide) rfl) (by kernel_rfl) (by kernel_rfl) (by intro c a d v w h; cases d <;> exact h) ?_
          repeat (first
            | ((first | refine TW_plain rfl rfl ?_ | refine TW_gmet rfl rfl rfl rfl ?_); first | refine TN_val (qp rfl) rfl rfl ?_ | refine TN_val (rr_load1 (v := .slice (some ⟨bk, off, none⟩) 2 cap) TyC.ty rfl (at_blk (i := 1) rfl rfl)) rfl rfl ?_ | refine TN_val (rr_idxc (j := 0) Und.eq TyC.ty rfl rfl (by decide)) rfl rfl ?_ | refine TN_val (rr_idxc (j := 1) Und.eq TyC.ty rfl rfl (by decide)) rfl rfl ?_ | refine TN_val (rr_loadN (cs := numC a (k + 1) vk0 v0) TyC.ty rfl rfl (at_froz (i := 0) rfl hF r0)) rfl rfl ?_ | refine TN_val (rr_loadN (cs := numC b (k + 1 + a.size) vk1 v1) TyC.ty rfl rfl (at_froz (i := 0) rfl hF r1)) rfl rfl ?_ | refine TN_val (rr_strlen Und.eq rfl) rfl rfl ?_ | refine TN_val (qfld FldC.fld rfl rfl) rfl rfl ?_ | refine TN_val (rr_nilc rfl) rfl rfl ?_ | refine TN_val (rr_lss rfl rfl (qT (by omega))) rfl rfl ?_ | refine TN_val (rr_lss rfl rfl (qF (by omega))) rfl rfl ?_ | refine TN_val (rr_eql rfl rfl (qT (by omega))) rfl rfl ?_ | refine TN_val (rr_eql rfl rfl (qF (by omega))) rfl rfl ?_ | refine TN_val (rr_add64 rfl rfl (by omega) (by omega) rfl) rfl rfl ?_)
            | refine TW_skip rfl rfl rfl rfl rfl rfl rfl ?_ | refine TW_done ?_)
          refine TW_one rfl (TL_callB [0, 1, 2] [3, 4, 5, 6, 7] (by decide) rfl rfl (he3 EntersC.en rfl rfl rfl rfl) (fun w hm hb => E0 f m n w _ hf hmk (ho.on hm (by intro o ho; simp [spO, mO] at ho ⊢; rcases ho with h | h | h <;> simp [h])) hb) rfl rfl rfl ?_)
          rintro ⟨x, m', n'⟩ ⟨hx, hmk'⟩
          conv => arg 8; simp only [zA, zB, zC, zD, zE, zF, zG, zH, zI, rowS, ret, id_eq, endSp]
          refine TW_on (sub_pick [7, 0] (by decide) rfl) ?_
          refine TW_one rfl (TL_callB [5, 6, 7] [0, 1, 2, 3, 4] (by decide) rfl rfl (he3 EntersC.en rfl rfl rfl rfl) (fun w hm hb => each4_calls w0 hT s hs N gs gm F w1 b _ _ _ E1 o1 p1 x (endC_le hx) m' n' w _ hmk' (ho.on hm (by intro o ho; simp [spO, mO] at ho ⊢; rcases ho with h | h | h <;> simp [h])) hb) rfl rfl rfl ?_)
          rintro ⟨y, m'', n''⟩ ⟨hy, hmk''⟩
          conv => arg 8; simp only [zA, zB, zC, zD, zE, zF, zG, zH, zI, rowS, ret, id_eq, eachSp]
          refine TW_on (sub_pick [7, 0] (by decide) rfl) ?_
          refine TW_one rfl (TL_storeB (i := 4) (cs' := (clsL y).toArray) rfl rfl rfl rfl rfl rfl (TW_on (sub_pick [7, 0] (by decide) rfl) ?_))
          repeat (first
            | ((first | refine TW_plain rfl rfl ?_ | refine TW_gmet rfl rfl rfl rfl ?_); first | refine TN_val (qp rfl) rfl rfl ?_ | refine TN_val (rr_strlen Und.eq rfl) rfl rfl ?_ | refine TN_val (qfld FldC.fld rfl rfl) rfl rfl ?_ | refine TN_val (rr_nilc rfl) rfl rfl ?_ | refine TN_val (rr_lss rfl rfl (qT (by omega))) rfl rfl ?_ | refine TN_val (rr_lss rfl rfl (qF (by omega))) rfl rfl ?_ | refine TN_val (rr_eql rfl rfl (qT (by omega))) rfl rfl ?_ | refine TN_val (rr_eql rfl rfl (qF (by omega))) rfl rfl ?_ | refine TN_val (rr_add64 rfl rfl (by omega) (by omega) rfl) rfl rfl ?_)
            | refine TW_skip rfl rfl rfl rfl rfl rfl rfl ?_ | refine TW_done ?_)
          repeat (first
            | refine qv rfl (qp rfl) rfl rfl ?_ | refine TL_nil ?_ | refine T_seq ?_ | refine T_region ?_ | refine qcT rfl ?_ | refine qcF rfl ?_ | refine T_skip ?_
            | refine T_exit ?_ | refine T_ret ?_ | refine T_block ?_ | refine E_then ?_ | refine E_thenX ?_ | refine E_thenR ?_ | refine E_blockN ?_
            | refine E_blockR ?_ | refine E_blockX ?_ | refine E_blockO rfl ?_ | refine qs rfl rfl rfl rfl rfl rfl ?_
            | ((try refine qg rfl rfl rfl ?_); first | refine qv rfl (qp rfl) rfl rfl ?_ | refine qv rfl (rr_strlen Und.eq rfl) rfl rfl ?_ | refine qv rfl (qfld FldC.fld rfl rfl) rfl rfl ?_ | refine qv rfl (rr_nilc rfl) rfl rfl ?_ | refine qv rfl (rr_lss rfl rfl (qT (by omega))) rfl rfl ?_ | refine qv rfl (rr_lss rfl rfl (qF (by omega))) rfl rfl ?_ | refine qv rfl (rr_eql rfl rfl (qT (by omega))) rfl rfl ?_ | refine qv rfl (rr_eql rfl rfl (qF (by omega))) rfl rfl ?_ | refine qv rfl (rr_add64 rfl rfl (by omega) (by omega) rfl) rfl rfl ?_))
          refine E_pick [5, 6, 7, 1, 2, 4] (by decide) rfl ?_
          exact E_mid (y, m'', n'') ⟨endC_cat hs hx hy, hmk''⟩ (by repeat' (first | exact True.intro | refine And.intro rfl ?_)) rfl
        | star a =>
          conv => arg 6; simp only [Re.kind]
          obtain ⟨bk, off, cap, rfl, hF, hkid⟩ := nkid_at hks (by show 0 < 1; omega)
          obtain ⟨vk0, v0, r0, o0, p0, n0⟩ := hkid 0 (by show 0 < 1; omega)
          replace r0 : Rd w1 bk (off + 0 * 8) (numC a (k + 1) vk0 v0) := r0
          have k0 := con_kid hcon (j := 0) (by show 0 < 1; omega)
          have E0 : EndsOk w0 s N gs gm F w1 a (numC a (k + 1) vk0 v0) := IH a (by have : a.size < (Re.star a).size := k0.2.2; omega) (k + 1) _ n0 k0.1 (by have : k + 1 + a.size ≤ k + (Re.star a).size := k0.2.1; omega)
          clear hkid IH
          have hrg := fun w => rangeE f f hkey.2 hkey.2 w
          have hst := sti0 hs (a := a) hf
          have hnot := notE
          have hmeet := meetE
          have hjoin := joinE
          have hbz := build_cz
          repeat (first
            | refine qv rfl (qp rfl) rfl rfl ?_ | refine TL_nil ?_ | refine T_seq ?_ | refine T_region ?_ | refine qcT rfl ?_ | refine qcF rfl ?_ | refine T_skip ?_
            | refine T_exit ?_ | refine T_ret ?_ | refine T_block ?_ | refine E_then ?_ | refine E_thenX ?_ | refine E_thenR ?_ | refine E_blockN ?_
            | refine E_blockR ?_ | refine E_blockX ?_ | refine E_blockO rfl ?_ | refine qs rfl rfl rfl rfl rfl rfl ?_
            | ((try refine qg rfl rfl rfl ?_); first | refine qv rfl (qp rfl) rfl rfl ?_ | refine qv rfl (rr_strlen Und.eq rfl) rfl rfl ?_ | refine qv rfl (qfld FldC.fld rfl rfl) rfl rfl ?_ | refine qv rfl (rr_nilc rfl) rfl rfl ?_ | refine qv rfl (rr_lss rfl rfl (qT (by omega))) rfl rfl ?_ | refine qv rfl (rr_lss rfl rfl (qF (by omega))) rfl rfl ?_ | refine qv rfl (rr_eql rfl rfl (qT (by omega))) rfl rfl ?_ | refine qv rfl (rr_eql rfl rfl (qF (by omega))) rfl rfl ?_ | refine qv rfl (rr_add64 rfl rfl (by omega) (by omega) rfl) rfl rfl ?_))
          refine TL_call (he2 EntersC.en rfl rfl rfl) (fun w hm => hrg _) rfl rfl rfl ?_
          intro _ _
          conv => arg 8; simp only [zA, zB, zC, zD, zE, zF, zG, zH, zI, rowS, ret, id_eq]
          refine TL_storeB (i := 7) (cs' := (clsL (rangeF f f)).toArray) rfl rfl rfl rfl rfl rfl ?_
          conv => arg 8; simp only [zA, zB, zC, zD, zE, zF, zG, zH, zI, rowS, ret, id_eq]
          repeat (first
            | refine qv rfl (qp rfl) rfl rfl ?_ | refine TL_nil ?_ | refine T_seq ?_ | refine T_region ?_ | refine qcT rfl ?_ | refine qcF rfl ?_ | refine T_skip ?_
            | refine T_exit ?_ | refine T_ret ?_ | refine T_block ?_ | refine E_then ?_ | refine E_thenX ?_ | refine E_thenR ?_ | refine E_blockN ?_
            | refine E_blockR ?_ | refine E_blockX ?_ | refine E_blockO rfl ?_ | refine qs rfl rfl rfl rfl rfl rfl ?_
            | ((try refine qg rfl rfl rfl ?_); first | refine qv rfl (qp rfl) rfl rfl ?_ | refine qv rfl (rr_loadB (i := 7) TyC.ty rfl rfl rfl) rfl rfl ?_ | refine qv rfl (rr_strlen Und.eq rfl) rfl rfl ?_ | refine qv rfl (qfld FldC.fld rfl rfl) rfl rfl ?_ | refine qv rfl (rr_nilc rfl) rfl rfl ?_ | refine qv rfl (rr_lss rfl rfl (qT (by omega))) rfl rfl ?_ | refine qv rfl (rr_lss rfl rfl (qF (by omega))) rfl rfl ?_ | refine qv rfl (rr_eql rfl rfl (qT (by omega))) rfl rfl ?_ | refine qv rfl (rr_eql rfl rfl (qF (by omega))) rfl rfl ?_ | refine qv rfl (rr_add64 rfl rfl (by omega) (by omega) rfl) rfl rfl ?_))
          refine TL_new rfl fun g11 => ?_
          conv => arg 8; simp only [zA, zB, zC, zD, zE, zF, zG, zH, zI, rowS, ret, id_eq]
          refine TL_storeB (i := 8) (cs' := (clsL (rangeF f f)).toArray) rfl rfl rfl rfl rfl rfl ?_
          conv => arg 8; simp only [zA, zB, zC, zD, zE, zF, zG, zH, zI, rowS, ret, id_eq]
          repeat (first
            | refine qv rfl (qp rfl) rfl rfl ?_ | refine TL_nil ?_ | refine T_seq ?_ | refine T_region ?_ | refine qcT rfl ?_ | refine qcF rfl ?_ | refine T_skip ?_
            | refine T_exit ?_ | refine T_ret ?_ | refine T_block ?_ | refine E_then ?_ | refine E_thenX ?_ | refine E_thenR ?_ | refine E_blockN ?_
            | refine E_blockR ?_ | refine E_blockX ?_ | refine E_blockO rfl ?_ | refine qs rfl rfl rfl rfl rfl rfl ?_
            | ((try refine qg rfl rfl rfl ?_); first | refine qv rfl (qp rfl) rfl rfl ?_ | refine qv rfl (rr_strlen Und.eq rfl) rfl rfl ?_ | refine qv rfl (qfld FldC.fld rfl rfl) rfl rfl ?_ | refine qv rfl (rr_nilc rfl) rfl rfl ?_ | refine qv rfl (rr_lss rfl rfl (qT (by omega))) rfl rfl ?_ | refine qv rfl (rr_lss rfl rfl (qF (by omega))) rfl rfl ?_ | refine qv rfl (rr_eql rfl rfl (qT (by omega))) rfl rfl ?_ | refine qv rfl (rr_eql rfl rfl (qF (by omega))) rfl rfl ?_ | refine qv rfl (rr_add64 rfl rfl (by omega) (by omega) rfl) rfl rfl ?_))
          refine T_pick [0, 1, 2, 3, 4, 5, 7, 8] (by decide) rfl ?_
          refine T_loop (ι := C4 × C4 × (At2 → Option Value) × Nat × Nat) (fun (out, now, m, n, _) => StI s a f out now ∧ MOk s N m n) (fun (_, _, _, _, g11) => [(0, .pointer (some ⟨gs, 0, none⟩)), (4, .pointer (some ⟨g4, 0, none⟩)), (6, .pointer (some ⟨g6, 0, none⟩)), (7, .pointer (some ⟨g7, 0, none⟩)), (10, .pointer (some ⟨g10, 0, none⟩)), (11, .pointer (some ⟨g11, 0, none⟩))])
            (fun (out, now, m, n, g11) => [blkO gs #[str s, .map (some gm)] 69, mapO atK gm m n, frozO F w1, blkO g4 (numC (.star a) k vk (.slice (some ⟨bk, off, none⟩) 1 cap)).toArray 73, blkO g6 (clsL C4.zero).toArray 27, blkO g7 (atC (k, f)).toArray 77, blkO g10 (clsL out).toArray 27, blkO g11 (clsL now).toArray 27]) (fun (out, now, _, _, _) => muS out now) (rangeF f f, rangeF f f, m, n, g11) ⟨hst, hmk⟩ (by repeat' (first | exact True.intro | refine And.intro rfl ?_)) rfl ?_
          clear hmk hst e g11
          rintro ⟨out, now, m, n, g11⟩ ⟨hst, hmk⟩
          dsimp only at hst hmk ⊢
          have heq := eqCls now C4.zero
          by_cases c1 : now = C4.zero
          · subst c1
            rw [decide_eq_true rfl] at heq
            repeat (first
              | refine qv rfl (qp rfl) rfl rfl ?_ | refine TL_nil ?_ | refine T_seq ?_ | refine T_region ?_ | refine qcT rfl ?_ | refine qcF rfl ?_ | refine T_skip ?_
              | refine T_exit ?_ | refine T_ret ?_ | refine T_block ?_ | refine E_then ?_ | refine E_thenX ?_ | refine E_thenR ?_ | refine E_blockN ?_
              | refine E_blockR ?_ | refine E_blockX ?_ | refine E_blockO rfl ?_ | refine qs rfl rfl rfl rfl rfl rfl ?_
              | ((try refine qg rfl rfl rfl ?_); first | refine qv rfl (qp rfl) rfl rfl ?_ | refine qv rfl (rr_loadB (i := 7) TyC.ty rfl rfl rfl) rfl rfl ?_ | refine qv rfl (rr_build rfl hbz) rfl rfl ?_ | refine qv rfl (rr_aggne rfl rfl (by kernel_rfl) heq rfl) rfl rfl ?_ | refine qv rfl (rr_strlen Und.eq rfl) rfl rfl ?_ | refine qv rfl (qfld FldC.fld rfl rfl) rfl rfl ?_ | refine qv rfl (rr_nilc rfl) rfl rfl ?_ | refine qv rfl (rr_lss rfl rfl (qT (by omega))) rfl rfl ?_ | refine qv rfl (rr_lss rfl rfl (qF (by omega))) rfl rfl ?_ | refine qv rfl (rr_eql rfl rfl (qT (by omega))) rfl rfl ?_ | refine qv rfl (rr_eql rfl rfl (qF (by omega))) rfl rfl ?_ | refine qv rfl (rr_add64 rfl rfl (by omega) (by omega) rfl) rfl rfl ?_))
            refine E_pick [0, 1, 2, 4, 5, 6] (by decide) rfl ?_
            exact E_mid (out, m, n) ⟨sti_end hs hf hst, hmk⟩ (by repeat' (first | exact True.intro | refine And.intro rfl ?_)) rfl
          · rw [decide_eq_false c1] at heq
            have hle := hst.le hf
            have hmu := fun e => mu_next (out := out) (e := e) c1
            repeat (first
              | refine qv rfl (qp rfl) rfl rfl ?_ | refine TL_nil ?_ | refine T_seq ?_ | refine T_region ?_ | refine qcT rfl ?_ | refine qcF rfl ?_ | refine T_skip ?_
              | refine T_exit ?_ | refine T_ret ?_ | refine T_block ?_ | refine E_then ?_ | refine E_thenX ?_ | refine E_thenR ?_ | refine E_blockN ?_
              | refine E_blockR ?_ | refine E_blockX ?_ | refine E_blockO rfl ?_ | refine qs rfl rfl rfl rfl rfl rfl ?_
              | ((try refine qg rfl rfl rfl ?_); first | refine qv rfl (qp rfl) rfl rfl ?_ | refine qv rfl (rr_loadB (i := 7) TyC.ty rfl rfl rfl) rfl rfl ?_ | refine qv rfl (rr_build rfl hbz) rfl rfl ?_ | refine qv rfl (rr_aggne rfl rfl (by kernel_rfl) heq rfl) rfl rfl ?_ | refine qv rfl (rr_strlen Und.eq rfl) rfl rfl ?_ | refine qv rfl (qfld FldC.fld rfl rfl) rfl rfl ?_ | refine qv rfl (rr_nilc rfl) rfl rfl ?_ | refine qv rfl (rr_lss rfl rfl (qT (by omega))) rfl rfl ?_ | refine qv rfl (rr_lss rfl rfl (qF (by omega))) rfl rfl ?_ | refine qv rfl (rr_eql rfl rfl (qT (by omega))) rfl rfl ?_ | refine qv rfl (rr_eql rfl rfl (qF (by omega))) rfl rfl ?_ | refine qv rfl (rr_add64 rfl rfl (by omega) (by omega) rfl) rfl rfl ?_))
            (repeat refine T_seq ?_)
            refine T_midq (ι := C4 × (At2 → Option Value) × Nat × Nat) (fun (e, m, n, _) => EachC s a now e ∧ MOk s N m n) (fun (_, _, _, g12) => [(0, .pointer (some ⟨gs, 0, none⟩)), (4, .pointer (some ⟨g4, 0, none⟩)), (6, .pointer (some ⟨g6, 0, none⟩)), (7, .pointer (some ⟨g7, 0, none⟩)), (10, .pointer (some ⟨g10, 0, none⟩)), (11, .pointer (some ⟨g11, 0, none⟩)), (12, .pointer (some ⟨g12, 0, none⟩))])
              (fun (e, m, n, g12) => [blkO gs #[str s, .map (some gm)] 69, mapO atK gm m n, frozO F w1, blkO g4 (numC (.star a) k vk (.slice (some ⟨bk, off, none⟩) 1 cap)).toArray 73, blkO g6 (clsL C4.zero).toArray 27, blkO g7 (atC (k, f)).toArray 77, blkO g10 (clsL out).toArray 27, blkO g11 (clsL now).toArray 27, blkO g12 (clsL (e.meet out.not)).toArray 27]) ?_ ?_
            · refine T_ord ([frozO F w1, blkO g4 (numC (.star a) k vk (.slice (some ⟨bk, off, none⟩) 1 cap)).toArray 73, blkO g10 (clsL out).toArray 27, blkO g11 (clsL now).toArray 27]) (.calm 0 (.calm 1 (.calm 2 (.calm 3 (.calm 4 (.calm 5 (.calm 7 (.two 6 (.calm 8 (.calm 9 (.one 10 (.one 11 (.done))))) 10 (.one 6 (.calm 8 (.calm 9 (.one 11 (.done))))))))))))) (sub_pick [2, 3, 6, 7] (by decide) rfl) (by kernel_rfl) (by kernel_rfl) (by intro c a d v w h; cases d <;> exact h) ?_
              repeat (first
                | ((first | refine TW_plain rfl rfl ?_ | refine TW_gmet rfl rfl rfl rfl ?_); first | refine TN_val (qp rfl) rfl rfl ?_ | refine TN_val (rr_loadB (i := 3) TyC.ty rfl rfl rfl) rfl rfl ?_ | refine TN_val (rr_load1 (v := .slice (some ⟨bk, off, none⟩) 1 cap) TyC.ty rfl (at_blk (i := 1) rfl rfl)) rfl rfl ?_ | refine TN_val (rr_idxc (j := 0) Und.eq TyC.ty rfl rfl (by decide)) rfl rfl ?_ | refine TN_val (rr_loadN (cs := numC a (k + 1) vk0 v0) TyC.ty rfl rfl (at_froz (i := 0) rfl hF r0)) rfl rfl ?_ | refine TN_val (rr_loadB (i := 2) TyC.ty rfl rfl rfl) rfl rfl ?_ | refine TN_val (rr_strlen Und.eq rfl) rfl rfl ?_ | refine TN_val (qfld FldC.fld rfl rfl) rfl rfl ?_ | refine TN_val (rr_nilc rfl) rfl rfl ?_ | refine TN_val (rr_lss rfl rfl (qT (by omega))) rfl rfl ?_ | refine TN_val (rr_lss rfl rfl (qF (by omega))) rfl rfl ?_ | refine TN_val (rr_eql rfl rfl (qT (by omega))) rfl rfl ?_ | refine TN_val (rr_eql rfl rfl (qF (by omega))) rfl rfl ?_ | refine TN_val (rr_add64 rfl rfl (by omega) (by omega) rfl) rfl rfl ?_)
                | refine TW_skip rfl rfl rfl rfl rfl rfl rfl ?_ | refine TW_done ?_)
              refine TW_two rfl rfl ?_ ?_
              · refine TL_callB [0, 1, 2] [3, 4, 5, 6, 7] (by decide) rfl rfl (he3 EntersC.en rfl rfl rfl rfl) (fun w hm hb => each4_calls w0 hT s hs N gs gm F w1 a _ _ _ E0 o0 p0 now hle m n w _ hmk (ho.on hm (by intro o ho; simp [spO, mO] at ho ⊢; rcases ho with h | h | h <;> simp [h])) hb) rfl rfl rfl ?_
                rintro ⟨e, m', n'⟩ ⟨he, hmk'⟩
                conv => arg 8; simp only [zA, zB, zC, zD, zE, zF, zG, zH, zI, rowS, ret, id_eq, eachSp]
                refine TW_on (sub_pick [7, 0, 3, 4] (by decide) rfl) ?_
                repeat (first
                  | ((first | refine TW_plain rfl rfl ?_ | refine TW_gmet rfl rfl rfl rfl ?_); first | refine TN_val (qp rfl) rfl rfl ?_ | refine TN_val (rr_strlen Und.eq rfl) rfl rfl ?_ | refine TN_val (qfld FldC.fld rfl rfl) rfl rfl ?_ | refine TN_val (rr_nilc rfl) rfl rfl ?_ | refine TN_val (rr_lss rfl rfl (qT (by omega))) rfl rfl ?_ | refine TN_val (rr_lss rfl rfl (qF (by omega))) rfl rfl ?_ | refine TN_val (rr_eql rfl rfl (qT (by omega))) rfl rfl ?_ | refine TN_val (rr_eql rfl rfl (qF (by omega))) rfl rfl ?_ | refine TN_val (rr_add64 rfl rfl (by omega) (by omega) rfl) rfl rfl ?_)
                  | refine TW_skip rfl rfl rfl rfl rfl rfl rfl ?_ | refine TW_done ?_)
                refine TW_call rfl (he1 EntersC.en rfl rfl) (fun w hm => hnot out _) rfl rfl rfl ?_
                repeat (first
                  | ((first | refine TW_plain rfl rfl ?_ | refine TW_gmet rfl rfl rfl rfl ?_); first | refine TN_val (qp rfl) rfl rfl ?_ | refine TN_val (rr_strlen Und.eq rfl) rfl rfl ?_ | refine TN_val (qfld FldC.fld rfl rfl) rfl rfl ?_ | refine TN_val (rr_nilc rfl) rfl rfl ?_ | refine TN_val (rr_lss rfl rfl (qT (by omega))) rfl rfl ?_ | refine TN_val (rr_lss rfl rfl (qF (by omega))) rfl rfl ?_ | refine TN_val (rr_eql rfl rfl (qT (by omega))) rfl rfl ?_ | refine TN_val (rr_eql rfl rfl (qF (by omega))) rfl rfl ?_ | refine TN_val (rr_add64 rfl rfl (by omega) (by omega) rfl) rfl rfl ?_)
                  | refine TW_skip rfl rfl rfl rfl rfl rfl rfl ?_ | refine TW_done ?_)
                refine TW_call rfl (he2 EntersC.en rfl rfl rfl) (fun w hm => hmeet e out.not _) rfl rfl rfl ?_
                repeat (first
                  | ((first | refine TW_plain rfl rfl ?_ | refine TW_gmet rfl rfl rfl rfl ?_); first | refine TN_val (qp rfl) rfl rfl ?_ | refine TN_val (rr_strlen Und.eq rfl) rfl rfl ?_ | refine TN_val (qfld FldC.fld rfl rfl) rfl rfl ?_ | refine TN_val (rr_nilc rfl) rfl rfl ?_ | refine TN_val (rr_lss rfl rfl (qT (by omega))) rfl rfl ?_ | refine TN_val (rr_lss rfl rfl (qF (by omega))) rfl rfl ?_ | refine TN_val (rr_eql rfl rfl (qT (by omega))) rfl rfl ?_ | refine TN_val (rr_eql rfl rfl (qF (by omega))) rfl rfl ?_ | refine TN_val (rr_add64 rfl rfl (by omega) (by omega) rfl) rfl rfl ?_)
                  | refine TW_skip rfl rfl rfl rfl rfl rfl rfl ?_ | refine TW_done ?_)
                refine TW_one rfl (TL_new rfl fun g12 => TW_on (sub_pick [7, 0, 3, 4] (by decide) rfl) ?_)
                refine TW_one rfl (TL_storeB (i := 8) (cs' := (clsL (e.meet out.not)).toArray) rfl rfl rfl rfl rfl rfl (TW_on (sub_pick [7, 0, 3, 4] (by decide) rfl) ?_))
                repeat (first
                  | ((first | refine TW_plain rfl rfl ?_ | refine TW_gmet rfl rfl rfl rfl ?_); first | refine TN_val (qp rfl) rfl rfl ?_ | refine TN_val (rr_strlen Und.eq rfl) rfl rfl ?_ | refine TN_val (qfld FldC.fld rfl rfl) rfl rfl ?_ | refine TN_val (rr_nilc rfl) rfl rfl ?_ | refine TN_val (rr_lss rfl rfl (qT (by omega))) rfl rfl ?_ | refine TN_val (rr_lss rfl rfl (qF (by omega))) rfl rfl ?_ | refine TN_val (rr_eql rfl rfl (qT (by omega))) rfl rfl ?_ | refine TN_val (rr_eql rfl rfl (qF (by omega))) rfl rfl ?_ | refine TN_val (rr_add64 rfl rfl (by omega) (by omega) rfl) rfl rfl ?_)
                  | refine TW_skip rfl rfl rfl rfl rfl rfl rfl ?_ | refine TW_done ?_)
                refine E_pick [5, 6, 7, 0, 1, 2, 3, 4, 8] (by decide) rfl ?_
                exact E_mid (e, m', n', g12) ⟨he, hmk'⟩ (by repeat' (first | exact True.intro | refine And.intro rfl ?_)) rfl
              · refine TL_new rfl fun g12 => TW_on (sub_pick [2, 3, 6, 7] (by decide) rfl) ?_
                refine TW_one rfl (TL_callB [0, 1, 2] [3, 4, 5, 6, 7, 8] (by decide) rfl rfl (he3 EntersC.en rfl rfl rfl rfl) (fun w hm hb => each4_calls w0 hT s hs N gs gm F w1 a _ _ _ E0 o0 p0 now hle m n w _ hmk (ho.on hm (by intro o ho; simp [spO, mO] at ho ⊢; rcases ho with h | h | h <;> simp [h])) hb) rfl rfl rfl ?_)
                rintro ⟨e, m', n'⟩ ⟨he, hmk'⟩
                conv => arg 8; simp only [zA, zB, zC, zD, zE, zF, zG, zH, zI, rowS, ret, id_eq, eachSp]
                refine TW_on (sub_pick [8, 0, 3, 4] (by decide) rfl) ?_
                repeat (first
                  | ((first | refine TW_plain rfl rfl ?_ | refine TW_gmet rfl rfl rfl rfl ?_); first | refine TN_val (qp rfl) rfl rfl ?_ | refine TN_val (rr_strlen Und.eq rfl) rfl rfl ?_ | refine TN_val (qfld FldC.fld rfl rfl) rfl rfl ?_ | refine TN_val (rr_nilc rfl) rfl rfl ?_ | refine TN_val (rr_lss rfl rfl (qT (by omega))) rfl rfl ?_ | refine TN_val (rr_lss rfl rfl (qF (by omega))) rfl rfl ?_ | refine TN_val (rr_eql rfl rfl (qT (by omega))) rfl rfl ?_ | refine TN_val (rr_eql rfl rfl (qF (by omega))) rfl rfl ?_ | refine TN_val (rr_add64 rfl rfl (by omega) (by omega) rfl) rfl rfl ?_)
                  | refine TW_skip rfl rfl rfl rfl rfl rfl rfl ?_ | refine TW_done ?_)
                refine TW_call rfl (he1 EntersC.en rfl rfl) (fun w hm => hnot out _) rfl rfl rfl ?_
                repeat (first
                  | ((first | refine TW_plain rfl rfl ?_ | refine TW_gmet rfl rfl rfl rfl ?_); first | refine TN_val (qp rfl) rfl rfl ?_ | refine TN_val (rr_strlen Und.eq rfl) rfl rfl ?_ | refine TN_val (qfld FldC.fld rfl rfl) rfl rfl ?_ | refine TN_val (rr_nilc rfl) rfl rfl ?_ | refine TN_val (rr_lss rfl rfl (qT (by omega))) rfl rfl ?_ | refine TN_val (rr_lss rfl rfl (qF (by omega))) rfl rfl ?_ | refine TN_val (rr_eql rfl rfl (qT (by omega))) rfl rfl ?_ | refine TN_val (rr_eql rfl rfl (qF (by omega))) rfl rfl ?_ | refine TN_val (rr_add64 rfl rfl (by omega) (by omega) rfl) rfl rfl ?_)
                  | refine TW_skip rfl rfl rfl rfl rfl rfl rfl ?_ | refine TW_done ?_)
                refine TW_call rfl (he2 EntersC.en rfl rfl rfl) (fun w hm => hmeet e out.not _) rfl rfl rfl ?_
                repeat (first
                  | ((first | refine TW_plain rfl rfl ?_ | refine TW_gmet rfl rfl rfl rfl ?_); first | refine TN_val (qp rfl) rfl rfl ?_ | refine TN_val (rr_strlen Und.eq rfl) rfl rfl ?_ | refine TN_val (qfld FldC.fld rfl rfl) rfl rfl ?_ | refine TN_val (rr_nilc rfl) rfl rfl ?_ | refine TN_val (rr_lss rfl rfl (qT (by omega))) rfl rfl ?_ | refine TN_val (rr_lss rfl rfl (qF (by omega))) rfl rfl ?_ | refine TN_val (rr_eql rfl rfl (qT (by omega))) rfl rfl ?_ | refine TN_val (rr_eql rfl rfl (qF (by omega))) rfl rfl ?_ | refine TN_val (rr_add64 rfl rfl (by omega) (by omega) rfl) rfl rfl ?_)
                  | refine TW_skip rfl rfl rfl rfl rfl rfl rfl ?_ | refine TW_done ?_)
                refine TW_one rfl (TL_storeB (i := 5) (cs' := (clsL (e.meet out.not)).toArray) rfl rfl rfl rfl rfl rfl (TW_on (sub_pick [8, 0, 3, 4] (by decide) rfl) ?_))
                repeat (first
                  | ((first | refine TW_plain rfl rfl ?_ | refine TW_gmet rfl rfl rfl rfl ?_); first | refine TN_val (qp rfl) rfl rfl ?_ | refine TN_val (rr_strlen Und.eq rfl) rfl rfl ?_ | refine TN_val (qfld FldC.fld rfl rfl) rfl rfl ?_ | refine TN_val (rr_nilc rfl) rfl rfl ?_ | refine TN_val (rr_lss rfl rfl (qT (by omega))) rfl rfl ?_ | refine TN_val (rr_lss rfl rfl (qF (by omega))) rfl rfl ?_ | refine TN_val (rr_eql rfl rfl (qT (by omega))) rfl rfl ?_ | refine TN_val (rr_eql rfl rfl (qF (by omega))) rfl rfl ?_ | refine TN_val (rr_add64 rfl rfl (by omega) (by omega) rfl) rfl rfl ?_)
                  | refine TW_skip rfl rfl rfl rfl rfl rfl rfl ?_ | refine TW_done ?_)
                refine E_pick [6, 7, 8, 0, 1, 2, 3, 4, 5] (by decide) rfl ?_
                exact E_mid (e, m', n', g12) ⟨he, hmk'⟩ (by repeat' (first | exact True.intro | refine And.intro rfl ?_)) rfl
            · rintro ⟨e, m', n', g12⟩ ⟨he, hmk'⟩
              dsimp only at he hmk' ⊢
              have hnx := sti_next hs hst he
              have hmu' := hmu e
              clear hmu
              generalize e.meet out.not = nx at *
              (repeat refine T_seq ?_)
              refine T_ord ([blkO g12 (clsL nx).toArray 27]) (.calm 1 (.calm 3 (.one 0 (.calm 2 (.one 4 (.one 5 (.done))))))) (sub_pick [8] (by decide) rfl) (by kernel_rfl) (by kernel_rfl) (by intro c a d v w h; cases d <;> exact h) ?_
              repeat (first
                | ((first | refine TW_plain rfl rfl ?_ | refine TW_gmet rfl rfl rfl rfl ?_); first | refine TN_val (qp rfl) rfl rfl ?_ | refine TN_val (rr_loadB (i := 0) TyC.ty rfl rfl rfl) rfl rfl ?_ | refine TN_val (rr_strlen Und.eq rfl) rfl rfl ?_ | refine TN_val (qfld FldC.fld rfl rfl) rfl rfl ?_ | refine TN_val (rr_nilc rfl) rfl rfl ?_ | refine TN_val (rr_lss rfl rfl (qT (by omega))) rfl rfl ?_ | refine TN_val (rr_lss rfl rfl (qF (by omega))) rfl rfl ?_ | refine TN_val (rr_eql rfl rfl (qT (by omega))) rfl rfl ?_ | refine TN_val (rr_eql rfl rfl (qF (by omega))) rfl rfl ?_ | refine TN_val (rr_add64 rfl rfl (by omega) (by omega) rfl) rfl rfl ?_)
                | refine TW_skip rfl rfl rfl rfl rfl rfl rfl ?_ | refine TW_done ?_)
              refine TW_one rfl (TL_val (rr_loadB (i := 6) TyC.ty rfl rfl rfl) rfl rfl rfl (TW_on (sub_pick [8] (by decide) rfl) ?_))
              repeat (first
                | ((first | refine TW_plain rfl rfl ?_ | refine TW_gmet rfl rfl rfl rfl ?_); first | refine TN_val (qp rfl) rfl rfl ?_ | refine TN_val (rr_strlen Und.eq rfl) rfl rfl ?_ | refine TN_val (qfld FldC.fld rfl rfl) rfl rfl ?_ | refine TN_val (rr_nilc rfl) rfl rfl ?_ | refine TN_val (rr_lss rfl rfl (qT (by omega))) rfl rfl ?_ | refine TN_val (rr_lss rfl rfl (qF (by omega))) rfl rfl ?_ | refine TN_val (rr_eql rfl rfl (qT (by omega))) rfl rfl ?_ | refine TN_val (rr_eql rfl rfl (qF (by omega))) rfl rfl ?_ | refine TN_val (rr_add64 rfl rfl (by omega) (by omega) rfl) rfl rfl ?_)
                | refine TW_skip rfl rfl rfl rfl rfl rfl rfl ?_ | refine TW_done ?_)
              refine TW_call rfl (he2 EntersC.en rfl rfl rfl) (fun w hm => hjoin out nx _) rfl rfl rfl ?_
              refine TW_one rfl (TL_storeB (i := 6) (cs' := (clsL (out.join nx)).toArray) rfl rfl rfl rfl rfl rfl (TW_on (sub_pick [8] (by decide) rfl) ?_))
              refine TW_one rfl (TL_storeB (i := 7) (cs' := (clsL nx).toArray) rfl rfl rfl rfl rfl rfl (TW_on (sub_pick [8] (by decide) rfl) ?_))
              repeat (first
                | ((first | refine TW_plain rfl rfl ?_ | refine TW_gmet rfl rfl rfl rfl ?_); first | refine TN_val (qp rfl) rfl rfl ?_ | refine TN_val (rr_strlen Und.eq rfl) rfl rfl ?_ | refine TN_val (qfld FldC.fld rfl rfl) rfl rfl ?_ | refine TN_val (rr_nilc rfl) rfl rfl ?_ | refine TN_val (rr_lss rfl rfl (qT (by omega))) rfl rfl ?_ | refine TN_val (rr_lss rfl rfl (qF (by omega))) rfl rfl ?_ | refine TN_val (rr_eql rfl rfl (qT (by omega))) rfl rfl ?_ | refine TN_val (rr_eql rfl rfl (qF (by omega))) rfl rfl ?_ | refine TN_val (rr_add64 rfl rfl (by omega) (by omega) rfl) rfl rfl ?_)
                | refine TW_skip rfl rfl rfl rfl rfl rfl rfl ?_ | refine TW_done ?_)
              repeat (first
                | refine qv rfl (qp rfl) rfl rfl ?_ | refine TL_nil ?_ | refine T_seq ?_ | refine T_region ?_ | refine qcT rfl ?_ | refine qcF rfl ?_ | refine T_skip ?_
                | refine T_exit ?_ | refine T_ret ?_ | refine T_block ?_ | refine E_then ?_ | refine E_thenX ?_ | refine E_thenR ?_ | refine E_blockN ?_
                | refine E_blockR ?_ | refine E_blockX ?_ | refine E_blockO rfl ?_ | refine qs rfl rfl rfl rfl rfl rfl ?_
                | ((try refine qg rfl rfl rfl ?_); first | refine qv rfl (qp rfl) rfl rfl ?_ | refine qv rfl (rr_loadB (i := 7) TyC.ty rfl rfl rfl) rfl rfl ?_ | refine qv rfl (rr_strlen Und.eq rfl) rfl rfl ?_ | refine qv rfl (qfld FldC.fld rfl rfl) rfl rfl ?_ | refine qv rfl (rr_nilc rfl) rfl rfl ?_ | refine qv rfl (rr_lss rfl rfl (qT (by omega))) rfl rfl ?_ | refine qv rfl (rr_lss rfl rfl (qF (by omega))) rfl rfl ?_ | refine qv rfl (rr_eql rfl rfl (qT (by omega))) rfl rfl ?_ | refine qv rfl (rr_eql rfl rfl (qF (by omega))) rfl rfl ?_ | refine qv rfl (rr_add64 rfl rfl (by omega) (by omega) rfl) rfl rfl ?_))
              refine TL_new rfl fun g11' => ?_
              conv => arg 8; simp only [zA, zB, zC, zD, zE, zF, zG, zH, zI, rowS, ret, id_eq]
              refine TL_storeB (i := 9) (cs' := (clsL nx).toArray) rfl rfl rfl rfl rfl rfl ?_
              conv => arg 8; simp only [zA, zB, zC, zD, zE, zF, zG, zH, zI, rowS, ret, id_eq]
              repeat (first
                | refine qv rfl (qp rfl) rfl rfl ?_ | refine TL_nil ?_ | refine T_seq ?_ | refine T_region ?_ | refine qcT rfl ?_ | refine qcF rfl ?_ | refine T_skip ?_
                | refine T_exit ?_ | refine T_ret ?_ | refine T_block ?_ | refine E_then ?_ | refine E_thenX ?_ | refine E_thenR ?_ | refine E_blockN ?_
                | refine E_blockR ?_ | refine E_blockX ?_ | refine E_blockO rfl ?_ | refine qs rfl rfl rfl rfl rfl rfl ?_
                | ((try refine qg rfl rfl rfl ?_); first | refine qv rfl (qp rfl) rfl rfl ?_ | refine qv rfl (rr_strlen Und.eq rfl) rfl rfl ?_ | refine qv rfl (qfld FldC.fld rfl rfl) rfl rfl ?_ | refine qv rfl (rr_nilc rfl) rfl rfl ?_ | refine qv rfl (rr_lss rfl rfl (qT (by omega))) rfl rfl ?_ | refine qv rfl (rr_lss rfl rfl (qF (by omega))) rfl rfl ?_ | refine qv rfl (rr_eql rfl rfl (qT (by omega))) rfl rfl ?_ | refine qv rfl (rr_eql rfl rfl (qF (by omega))) rfl rfl ?_ | refine qv rfl (rr_add64 rfl rfl (by omega) (by omega) rfl) rfl rfl ?_))
              refine E_pick [0, 1, 2, 3, 4, 5, 6, 9] (by decide) rfl ?_
              exact E_round (out.join nx, nx, m', n', g11') ⟨hnx, hmk'⟩ hmu' (by repeat' (first | exact True.intro | refine And.intro rfl ?_)) rfl
      · rintro ⟨c, m', n'⟩ ⟨hc, hmk'⟩
        dsimp only at hc hmk' ⊢
        have hset := hmk'.set hs (k := k) (f := f) (by omega) hf (c := c) (by rw [hNk]; exact hc)
        have hn' := hmk'.le
        (repeat refine T_seq ?_)
        refine T_ord ([blkO gs #[str s, .map (some gm)] 69, blkO g7 (atC (k, f)).toArray 77, blkO g10 (clsL c).toArray 27]) (.calm 0 (.calm 1 (.calm 2 (.calm 3 (.calm 4 (.calm 5 (.one 6 (.done)))))))) (sub_pick [0, 4, 5] (by decide) rfl) (by kernel_rfl) (by kernel_rfl) (by intro c a d v w h; cases d <;> exact h) ?_
        repeat (first
          | ((first | refine TW_plain rfl rfl ?_ | refine TW_gmet rfl rfl rfl rfl ?_); first | refine TN_val (qp rfl) rfl rfl ?_ | refine TN_val (rr_nilc rfl) rfl rfl ?_ | refine TN_val (rr_load1 TyC.ty rfl (at_blk (i := 0) rfl rfl)) rfl rfl ?_ | refine TN_val (rr_loadB (i := 1) TyC.ty rfl rfl rfl) rfl rfl ?_ | refine TN_val (rr_loadB (i := 2) TyC.ty rfl rfl rfl) rfl rfl ?_ | refine TN_val (rr_strlen Und.eq rfl) rfl rfl ?_ | refine TN_val (qfld FldC.fld rfl rfl) rfl rfl ?_ | refine TN_val (rr_nilc rfl) rfl rfl ?_ | refine TN_val (rr_lss rfl rfl (qT (by omega))) rfl rfl ?_ | refine TN_val (rr_lss rfl rfl (qF (by omega))) rfl rfl ?_ | refine TN_val (rr_eql rfl rfl (qT (by omega))) rfl rfl ?_ | refine TN_val (rr_eql rfl rfl (qF (by omega))) rfl rfl ?_ | refine TN_val (rr_add64 rfl rfl (by omega) (by omega) rfl) rfl rfl ?_)
          | refine TW_skip rfl rfl rfl rfl rfl rfl rfl ?_ | refine TW_done ?_)
        refine TW_one rfl (TL_mapSet atK (i := 1) (x := (k, f)) Und.eq rfl rfl rfl rfl hkey (by omega) (TW_on (sub_pick [0, 4, 5] (by decide) rfl) ?_))
        repeat (first
          | ((first | refine TW_plain rfl rfl ?_ | refine TW_gmet rfl rfl rfl rfl ?_); first | refine TN_val (qp rfl) rfl rfl ?_ | refine TN_val (rr_strlen Und.eq rfl) rfl rfl ?_ | refine TN_val (qfld FldC.fld rfl rfl) rfl rfl ?_ | refine TN_val (rr_nilc rfl) rfl rfl ?_ | refine TN_val (rr_lss rfl rfl (qT (by omega))) rfl rfl ?_ | refine TN_val (rr_lss rfl rfl (qF (by omega))) rfl rfl ?_ | refine TN_val (rr_eql rfl rfl (qT (by omega))) rfl rfl ?_ | refine TN_val (rr_eql rfl rfl (qF (by omega))) rfl rfl ?_ | refine TN_val (rr_add64 rfl rfl (by omega) (by omega) rfl) rfl rfl ?_)
          | refine TW_skip rfl rfl rfl rfl rfl rfl rfl ?_ | refine TW_done ?_)
        repeat (first
          | refine qv rfl (qp rfl) rfl rfl ?_ | refine TL_nil ?_ | refine T_seq ?_ | refine T_region ?_ | refine qcT rfl ?_ | refine qcF rfl ?_ | refine T_skip ?_
          | refine T_exit ?_ | refine T_ret ?_ | refine T_block ?_ | refine E_then ?_ | refine E_thenX ?_ | refine E_thenR ?_ | refine E_blockN ?_
          | refine E_blockR ?_ | refine E_blockX ?_ | refine E_blockO rfl ?_ | refine qs rfl rfl rfl rfl rfl rfl ?_
          | ((try refine qg rfl rfl rfl ?_); first | refine qv rfl (qp rfl) rfl rfl ?_ | refine qv rfl (rr_loadB (i := 5) TyC.ty rfl rfl rfl) rfl rfl ?_ | refine qv rfl (rr_strlen Und.eq rfl) rfl rfl ?_ | refine qv rfl (qfld FldC.fld rfl rfl) rfl rfl ?_ | refine qv rfl (rr_nilc rfl) rfl rfl ?_ | refine qv rfl (rr_lss rfl rfl (qT (by omega))) rfl rfl ?_ | refine qv rfl (rr_lss rfl rfl (qF (by omega))) rfl rfl ?_ | refine qv rfl (rr_eql rfl rfl (qT (by omega))) rfl rfl ?_ | refine qv rfl (rr_eql rfl rfl (qF (by omega))) rfl rfl ?_ | refine qv rfl (rr_add64 rfl rfl (by omega) (by omega) rfl) rfl rfl ?_))
        refine TL_storeB (i := 3) (cs' := (clsL c).toArray) rfl rfl rfl rfl rfl rfl ?_
        conv => arg 8; simp only [zA, zB, zC, zD, zE, zF, zG, zH, zI, rowS, ret, id_eq]
        repeat (first
          | refine qv rfl (qp rfl) rfl rfl ?_ | refine TL_nil ?_ | refine T_seq ?_ | refine T_region ?_ | refine qcT rfl ?_ | refine qcF rfl ?_ | refine T_skip ?_
          | refine T_exit ?_ | refine T_ret ?_ | refine T_block ?_ | refine E_then ?_ | refine E_thenX ?_ | refine E_thenR ?_ | refine E_blockN ?_
          | refine E_blockR ?_ | refine E_blockX ?_ | refine E_blockO rfl ?_ | refine qs rfl rfl rfl rfl rfl rfl ?_
          | ((try refine qg rfl rfl rfl ?_); first | refine qv rfl (qp rfl) rfl rfl ?_ | refine qv rfl (rr_strlen Und.eq rfl) rfl rfl ?_ | refine qv rfl (qfld FldC.fld rfl rfl) rfl rfl ?_ | refine qv rfl (rr_nilc rfl) rfl rfl ?_ | refine qv rfl (rr_lss rfl rfl (qT (by omega))) rfl rfl ?_ | refine qv rfl (rr_lss rfl rfl (qF (by omega))) rfl rfl ?_ | refine qv rfl (rr_eql rfl rfl (qT (by omega))) rfl rfl ?_ | refine qv rfl (rr_eql rfl rfl (qF (by omega))) rfl rfl ?_ | refine qv rfl (rr_add64 rfl rfl (by omega) (by omega) rfl) rfl rfl ?_))
        refine E_retc1 (i := 3) rfl rfl rfl rfl fun w hm => ?_
        exact hm.meetsB (S := endSp s N gs gm F w1 r f) (c, _, _) ⟨hc, hset⟩ [0, 1, 2] (by decide) rfl
end Go.Proofs.YtbiacehgfmgfdaaDoor.eng
