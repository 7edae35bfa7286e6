/- Part 3 of what LexerOwn needs: PlU, PlB, RexS, PlN, PlS, PlA, PlC, PlD, PlacesM, ClsEq, RexC, PlM, ClassB, ClsRg, RexPl, PlR, BoE. -/
import Derived.Test.YtkmemlnkijinlaaMgB
import Derived.WalkKit
import Derived.WalkSpells
import Derived.WalkLawsBesides
import Derived.Deep.RegionLaw
import Derived.Deep.AppendLies
import Derived.Deep.QuietTactic
import Derived.BigQuiet
import Derived.Deep.DeepCutAuto
import Derived.Lib.Hide
import Derived.Test.YtkmemlnkijinlaaRows
import Derived.ProofKit
import Derived.OpenShut
import Derived.ShutString
import Derived.SizedLaws
import Derived.JoinedCond
import Derived.Deep.CondSized
import Derived.Deep.Quiet
import Derived.StillTail
import Derived.Deep.LoopGhost
import Derived.Laws.BitsLemmas
import Derived.Laws.BytesString
import Derived.Test.YtkmemlnkijinlaaProg
import Derived.Laws.StructEq
import Derived.Laws.MakeOwn
import Derived.Laws.AppendOwn
import Derived.Maps.OwnSet
import Derived.DeepKeys4
import Derived.WideKeyEntry
import Derived.Laws.Entries
import Derived.Shelf.Sort.Plain
import Derived.Ground.Names2Prog
import Derived.Shelf.Slices.CompactI
import Derived.Shelf.Slices.In.SortNone
import Derived.Lib.RowBridge
import Derived.Laws.BitsAllLaws
import Derived.Lib.TrailingZeros
import Derived.Lib.SlicesCompact
import Derived.ChangeKeysEq
/- PlU -/
namespace Go.Proofs.Ytkmemlnkijinlaa.eng
open Go.RowKit kit mix placesL
theorem int_flat (l : List Int) : l.flatMap kit.intC = l.map (Value.int .i64) := by
  induction l with
  | nil => rfl
  | cons x r ih => rw [List.flatMap_cons, ih]; rfl
abbrev intR (v : Value) (l : List Int) : Own := rowO 3 1 v l.length (l.map (Value.int .i64))
def intRS (l : List Int) : Spec Value := ⟨fun _ => True, fun v => v, fun v => [intR v l]⟩
set_option maxHeartbeats 2000000 in
theorem union_calls (va vb : Value) (a b : List Int) (w : World) (ha : Sl w va a.length (a.map (Value.int .i64))) (hb : Sl w vb b.length (b.map (Value.int .i64))) (hla : a.length ≤ 1000000) (hlb : b.length ≤ 1000000) :
    Calls Try.prog 41 #[va, vb] w (Meets (intRS (uni a b)) w) := by
  have hcl := fun w' (hg : Gr w w') => cloneIntC_calls va a w' (by rw [int_flat]; exact ha.gr hg) (by omega)
  refine enter (args := [va, vb]) (n := 14) Try.func41 rfl rfl rfl ?_
  repeat (first
    | refine QV QP ?_ | refine QZ ?_)
  refine TL_call (he1 EntersC.en rfl rfl) (fun w hm => hcl _ hm.below) rfl rfl rfl ?_
  intro v1 _
  conv => arg 8; simp only [zA, zB, zC, zD, zE, zF, zG, zH, zI, rowS, ret, id_eq]
  rw [int_flat]
  repeat (first
    | refine QV QP ?_ | refine QZ ?_)
  refine TL_appSl (i := 0) (bytes := 8) (m := a.length) (xs := a.map (Value.int .i64)) (k := b.length) (ys := b.map (Value.int .i64)) rfl (sl_old hb) rfl rfl (by rw [List.length_map, Nat.mul_one]) (fun u hu => by obtain ⟨x, _, rfl⟩ := List.mem_map.1 hu; rfl) (by omega) (by omega) rfl fun v2 => ?_
  rw [← List.map_append, ← List.length_append]
  conv => arg 8; simp only [zA, zB, zC, zD, zE, zF, zG, zH, zI, rowS, ret, id_eq]
  repeat (first
    | refine QV QP ?_ | refine QZ ?_)
  refine TL_callB [0] [] (by decide) rfl rfl (he1 EntersC.en rfl rfl) (fun w hm hb => sortI_calls v2 (a ++ b) w _ hb (by rw [List.length_append]; omega)) rfl rfl rfl ?_
  intro _ _
  conv => arg 8; simp only [zA, zB, zC, zD, zE, zF, zG, zH, zI, rowS, ret, id_eq]
  repeat (first
    | refine QV QP ?_ | refine QZ ?_)
  rw [show (a ++ b).length = (eng.sortL (a ++ b)).length from (List.length_mergeSort _).symm]
  refine TL_callB [0] [] (by decide) rfl rfl (he1 EntersC.en rfl rfl) (fun w hm hb => compactI_calls v2 (eng.sortL (a ++ b)) w _ hb) rfl rfl rfl ?_
  intro v3 _
  conv => arg 8; simp only [zA, zB, zC, zD, zE, zF, zG, zH, zI, rowS, ret, id_eq]
  repeat (first
    | refine QV QP ?_ | refine QZ ?_)
  exact E_ret1 rfl rfl fun w hm => hm.meets (S := intRS (uni a b)) v3 trivial [0] (by decide) rfl
end Go.Proofs.Ytkmemlnkijinlaa.eng

/- PlB -/
namespace Go.Proofs.Ytkmemlnkijinlaa.eng
open Go.RowKit kit mix placesL
def one1 (v : Value) : List Value := [v]
theorem one1_len (v : Value) : (one1 v).length = 1 := rfl
theorem one1_flat (l : List Value) : l.flatMap one1 = l := by
  induction l with
  | nil => rfl
  | cons x r ih => rw [List.flatMap_cons, ih]; rfl
theorem ownsRow_stay {w w' : World} {e : TypeId} {size n : Nat} {v : Value} {xs : List Value} (h : w.ownsRow 0 e size v n xs) (hk : ∀ k, v.ownBlock = some k → w'.heap[k]? = w.heap[k]?) : w'.ownsRow 0 e size v n xs := by
  refine ⟨h.1, ?_⟩
  rcases h.2 with hn | ⟨g, cap, cur, rfl, hb0, hg, rest⟩
  · exact .inl hn
  · exact .inr ⟨g, cap, cur, rfl, hb0, by rw [hk g rfl]; exact hg, rest⟩
/-- rows of numbers, each a block of its own or none -/
def folS : Shp (List Int) :=
  ⟨1, fun F w cs l => ∃ v, cs = [v] ∧ (∀ x ∈ l, kit.okI64 x) ∧ w.ownsRow 0 3 1 v l.length (l.map (Value.int .i64)) ∧ ∀ k, v.ownBlock = some k → F k, fun ⟨_, h, _⟩ => by rw [h]; rfl,
    fun ⟨v, h1, h2, h3, h4⟩ hk => ⟨v, h1, h2, ownsRow_stay h3 fun k h => hk k (h4 k h), h4⟩, fun ⟨v, h1, h2, h3, h4⟩ hk => ⟨v, h1, h2, h3, fun k h => hk k (h4 k h)⟩⟩
abbrev folR (v : Value) (vs : List Value) : Own := rowO 24 1 v vs.length (vs.flatMap one1)
abbrev folE (F : Nat → Prop) (vs : List Value) (fol : List (List Int)) : Own := elsO folS F (vs.map one1) fol
def mkC (vc vr vf vfol vl ve : Value) (rule : Int) : Array Value := #[vc, vr, vf, vfol, vl, ve, .int .i64 rule]
theorem els_set {α : Type} {s : Shp α} {F F2 : Nat → Prop} {css : List (List Value)} {cs : List Value} {l : List α} {a : α} {w : World} {k : Nat} (he : (elsO s F css l).holds w) (hs : s.is F2 w cs a) (h2 : ∀ k, F2 k → k < w.heap.size) :
    (elsO s (fun k => F k ∨ F2 k) (css.set k cs) (l.set k a)).holds w := by
  obtain ⟨⟨h1, h3⟩, h4⟩ := he
  refine ⟨⟨by simp [h1], fun i hi hi' => ?_⟩, fun k hk => hk.elim (h4 k) (h2 k)⟩
  rw [List.getElem_set, List.getElem_set]
  by_cases c : k = i
  · subst c
    rw [if_pos rfl, if_pos rfl]
    exact s.mono hs fun q hq => .inr hq
  · rw [if_neg c, if_neg c]
    exact s.mono (h3 i (by simpa using hi) (by simpa using hi')) fun q hq => .inl hq
theorem fol_sl {F : Nat → Prop} {vs : List Value} {fol : List (List Int)} {w : World} (he : (folE F vs fol).holds w) {k : Nat} (hk : k < fol.length) (hk' : k < vs.length) : Sl w vs[k] fol[k].length (fol[k].map (Value.int .i64)) := by
  obtain ⟨⟨h1, h3⟩, _⟩ := he
  obtain ⟨v, hv, _, hs, _⟩ := h3 k hk (by simpa using hk')
  rw [List.getElem_map] at hv
  unfold one1 at hv
  simp only [List.cons.injEq, and_true] at hv
  rw [hv]
  exact Sl.of_own hs
theorem fol_is {w : World} {v : Value} {l : List Int} (hp : ∀ x ∈ l, kit.okI64 x) (h : (intR v l).holds w) : folS.is (fun k => v.ownBlock = some k) w [v] l :=
  ⟨v, rfl, hp, h, fun _ h => h⟩
def behSp (g : Nat) (vc vr vf vfol vl ve : Value) (rule : Int) (va vb : Value) (fol : List (List Int)) (last first : List Int) : Spec (List Value × (Nat → Prop)) :=
  ⟨fun x => x.1.length = fol.length, fun _ => .tuple #[], fun x => [blkO g (mkC vc vr vf vfol vl ve rule) 102, folR vfol x.1, folE x.2 x.1 (behindF fol last first), intR va last, intR vb first]⟩
theorem behind_step (fol : List (List Int)) (last first : List Int) {k : Nat} (hk : k < last.length) : behindF fol (last.take (k + 1)) first = (behindF fol (last.take k) first).set last[k].toNat (uni ((behindF fol (last.take k) first).getD last[k].toNat []) first) := by
  unfold behindF
  rw [List.take_succ_eq_append_getElem hk, List.foldl_append]; rfl
set_option maxHeartbeats 8000000 in
theorem behind_calls (g : Nat) (vc vr vf vfol vl ve : Value) (rule : Int) (va vb : Value) (vs : List Value) (F : Nat → Prop) (fol : List (List Int)) (last first : List Int) (w : World) (B : Base)
    (hvs : vs.length = fol.length) (hn : fol.length ≤ 100000) (hfol : ∀ l ∈ fol, Ris fol.length l) (hla : Ris fol.length last) (hfi : Ris fol.length first)
    (hm : Mem B [blkO g (mkC vc vr vf vfol vl ve rule) 102, folR vfol vs, folE F vs fol, intR va last, intR vb first] w) :
    Calls Try.prog 45 #[.pointer (some ⟨g, 0, none⟩), va, vb] w (MeetsB (behSp g vc vr vf vfol vl ve rule va vb fol last first) B) := by
  have hlast := ris_len hla
  have hfirst := ris_len hfi
  have hva : ∃ a c, va = .slice a last.length c := by
    obtain ⟨base, cap, h, _⟩ := Sl.of_own (show w.ownsRow 0 3 1 va last.length (last.map (Value.int .i64)) from hm.get (i := 3) rfl)
    exact ⟨base, cap, h⟩
  obtain ⟨aa, ca, rfl⟩ := hva
  refine enterB hm (args := [.pointer (some ⟨g, 0, none⟩), .slice aa last.length ca, vb]) (n := 32) Try.func45 rfl rfl rfl ?_
  clear hm
  repeat (first
    | refine QV QP ?_ | refine QZ ?_ | refine qcT rfl ?_ | refine qcF rfl ?_ | refine E_blockX ?_ | refine E_blockO rfl ?_ | refine QV QL ?_
    | refine QV QA ?_ | refine QV (rr_nilc rfl) ?_ | refine QV QlT ?_ | refine QV QlF ?_ | refine QV QaA ?_)
  refine T_loop (ι := Nat × List Value × (Nat → Prop)) (fun (k, vs, F) => k ≤ last.length ∧ vs.length = fol.length) (fun (k, _, _) => [(0, .pointer (some ⟨g, 0, none⟩)), (2, vb), (8, .slice aa last.length ca), (9, .int .i64 last.length), (10, .int .i64 (k : Int))])
    (fun (k, vs, F) => [blkO g (mkC vc vr vf vfol vl ve rule) 102, folR vfol vs, folE F vs (behindF fol (last.take k) first), intR (.slice aa last.length ca) last, intR vb first]) (fun (k, _, _) => last.length - k) (0, vs, F) ⟨Nat.zero_le _, hvs⟩ (by repeat' (first | exact True.intro | refine And.intro rfl ?_)) rfl ?_
  clear hvs vs F
  rintro ⟨k, vs, F⟩ ⟨i1, i2⟩
  dsimp only at i1 i2 ⊢
  by_cases c6 : k < last.length
  · have hstep := behind_step fol last first c6
    have hris := behind_ris (n := fol.length) hfi.2 (last.take k) fol hfol
    have hlen := behind_len fol (last.take k) first
    have hx := hla.2 last[k] (List.getElem_mem c6)
    have hgx : last[k]? = some last[k] := List.getElem?_eq_getElem c6
    generalize behindF fol (last.take k) first = fo at *
    generalize last[k] = x at *
    obtain ⟨xn, rfl⟩ := Int.eq_ofNat_of_zero_le hx.1
    rw [Int.toNat_natCast] at hstep
    have hxn : xn < fo.length := by omega
    have hget : fo.getD xn [] = fo[xn] := by rw [List.getD_eq_getElem?_getD, List.getElem?_eq_getElem hxn]; rfl
    rw [hget] at hstep
    have hrx := hris fo[xn] (List.getElem_mem hxn)
    have hrl := ris_len hrx
    have hru := ris_uni hrx.2 hfi.2
    have hul := ris_len hru
    refine T_know (i := 1) (φ := ∃ gf cap, vfol = .slice (some ⟨gf, 0, none⟩) vs.length cap ∧ vs.length ≤ cap) rfl (fun w h => by
      obtain ⟨h1, h2⟩ := (show w.ownsRow 0 24 1 vfol vs.length (vs.flatMap one1) from h)
      rcases h2 with ⟨_, h0⟩ | ⟨gf, cap, cur, hv, _, _, hc, _⟩
      · omega
      · exact ⟨gf, cap, hv, hc⟩) fun hvf => ?_
    obtain ⟨gf, capf, rfl, hcf⟩ := hvf
    refine T_know (i := 3) (φ := ∃ ga, aa = some ⟨ga, 0, none⟩) rfl (fun w h => by
      obtain ⟨h1, h2⟩ := (show w.ownsRow 0 3 1 (.slice aa last.length ca) last.length (last.map (Value.int .i64)) from h)
      rcases h2 with ⟨_, h0⟩ | ⟨gf, cap, cur, hv, _, _, hc, _⟩
      · omega
      · cases hv; exact ⟨gf, rfl⟩) fun hva => ?_
    obtain ⟨ga, rfl⟩ := hva
    have hxv : xn < vs.length := by omega
    have hrow : ∀ (L : List Own) (hi : L[1]? = some (folR (.slice (some ⟨gf, 0, none⟩) vs.length capf) vs)), At B L ⟨gf, 0 + xn * 1 + 0, none⟩ vs[xn] := fun L hi => at_rowel one1_len hi hxv 0 _ rfl
    have hla3 : ∀ (L : List Own) (hi : L[3]? = some (intR (.slice (some ⟨ga, 0, none⟩) last.length ca) last)), At B L ⟨ga, 0 + k * 1, none⟩ (.int .i64 (xn : Int)) := fun L hi => at_row hi (by rw [List.getElem?_map, Nat.zero_add, Nat.mul_one, hgx]; rfl)
    repeat (first
      | refine QV QP ?_ | refine QZ ?_ | refine qcT rfl ?_ | refine qcF rfl ?_ | refine E_blockX ?_ | refine E_blockO rfl ?_
      | refine QV (rr_idxc Und.eq TyC.ty rfl rfl c6) ?_ | refine QV (rr_load1 (v := .int .i64 (xn : Int)) TyC.ty rfl (hla3 _ rfl)) ?_ | refine QV QL ?_
      | refine QV QA ?_ | refine QV (rr_nilc rfl) ?_ | refine QV QlT ?_ | refine QV QlF ?_ | refine QV QaA ?_)
    (repeat refine T_seq ?_)
    refine T_ord ([blkO g (mkC vc vr vf (.slice (some ⟨gf, 0, none⟩) vs.length capf) vl ve rule) 102]) (.calm 0 (.calm 1 (.calm 2 (.calm 3 (.calm 4 (.calm 5 (.calm 6 (.calm 7 (.calm 8 (.calm 9 (.calm 10 (.calm 11 (.calm 12 (.calm 14 (.one 13 (.one 15 (.calm 16 (.one 17 (.done))))))))))))))))))) (sub_pick [0] (by decide) rfl) (by kernel_rfl) (by kernel_rfl) (by intro c a d v w h; cases d <;> exact h) ?_
    repeat (first
      | ((first | refine TW_plain rfl rfl ?_ | refine TW_gmet rfl rfl rfl rfl ?_); first | refine QW QP ?_ | refine QW (rr_nilc rfl) ?_ | refine QW (rr_load1 (v := .slice (some ⟨gf, 0, none⟩) vs.length capf) TyC.ty rfl (at_blk (i := 0) rfl rfl)) ?_ | refine QW (rr_idxc Und.eq TyC.ty rfl rfl hxv) ?_ | refine QW QL ?_ | refine QW QA ?_ | refine QW (rr_nilc rfl) ?_ | refine QW QlT ?_ | refine QW QlF ?_ | refine QW QaA ?_)
      | refine TW_done ?_)
    refine TW_one rfl (TL_val (rr_load1 (v := vs[xn]) TyC.ty rfl (hrow _ rfl)) rfl rfl rfl (TW_on (sub_pick [0] (by decide) rfl) ?_))
    repeat (first
      | ((first | refine TW_plain rfl rfl ?_ | refine TW_gmet rfl rfl rfl rfl ?_); first | refine QW QP ?_ | refine QW (rr_nilc rfl) ?_ | refine QW QL ?_ | refine QW QA ?_ | refine QW (rr_nilc rfl) ?_ | refine QW QlT ?_ | refine QW QlF ?_ | refine QW QaA ?_)
      | refine TW_done ?_)
    refine TW_one rfl (TL_call (he2 EntersC.en rfl rfl rfl) (fun w' hm => union_calls vs[xn] vb fo[xn] first w' (fol_sl (hm.get (i := 2) rfl) hxn hxv) (Sl.of_own (hm.get (i := 4) rfl)) (by omega) (by omega)) rfl rfl rfl ?_)
    intro v _
    conv => arg 8; simp only [zA, zB, zC, zD, zE, zF, zG, zH, zI, rowS, ret, id_eq, intRS]
    refine TL_slv (i := 5) rfl fun hc1 ho1 => ?_
    refine TW_on (sub_pick [0] (by decide) rfl) ?_
    repeat (first
      | ((first | refine TW_plain rfl rfl ?_ | refine TW_gmet rfl rfl rfl rfl ?_); first | refine QW QP ?_ | refine QW (rr_idxc Und.eq TyC.ty rfl rfl hxv) ?_ | refine QW QL ?_ | refine QW QA ?_ | refine QW (rr_nilc rfl) ?_ | refine QW QlT ?_ | refine QW QlF ?_ | refine QW QaA ?_)
      | refine TW_done ?_)
    refine TW_one rfl (TL_setRow one1_len (i := 1) (k := xn) (l := vs) (a := v) TyC.ty rfl rfl (by omega) hxv rfl rfl hc1 (by simp only [one1, List.all_cons, List.all_nil, ho1]; rfl) (TW_on (sub_pick [0] (by decide) rfl) ?_))
    repeat (first
      | ((first | refine TW_plain rfl rfl ?_ | refine TW_gmet rfl rfl rfl rfl ?_); first | refine QW QP ?_ | refine QW QL ?_ | refine QW QA ?_ | refine QW (rr_nilc rfl) ?_ | refine QW QlT ?_ | refine QW QlF ?_ | refine QW QaA ?_)
      | refine TW_done ?_)
    repeat (first
      | refine QV QP ?_ | refine QZ ?_ | refine qcT rfl ?_ | refine qcF rfl ?_ | refine E_blockX ?_ | refine E_blockO rfl ?_ | refine QV QL ?_
      | refine QV QA ?_ | refine QV (rr_nilc rfl) ?_ | refine QV QlT ?_ | refine QV QlF ?_ | refine QV QaA ?_)
    refine E_merge (folE (fun k => F k ∨ v.ownBlock = some k) (vs.set xn v) (fo.set xn (uni fo[xn] first))) 5 2 [0, 1, 3, 4] (by decide) rfl rfl rfl (fun k hk => hk.elim (fun h => by cases h) fun h => h.elim (fun h => .inr (.inr h)) fun h => .inl (.inl h)) (fun w hr he => ?_) ?_
    · have := els_set (k := xn) he (fol_is (fun x hx => ⟨by have := hru.2 x hx; omega, by have := hru.2 x hx; omega⟩) hr) fun k hk => (intR v (uni fo[xn] first)).lt w hr k (.inl hk)
      rw [show ([v] : List Value) = one1 v from rfl, ← List.map_set] at this
      exact this
    refine E_pick [0, 1, 4, 2, 3] (by decide) rfl ?_
    exact E_round (k + 1, vs.set xn v, fun k => F k ∨ v.ownBlock = some k) ⟨by omega, by rw [List.length_set]; exact i2⟩ (by show last.length - (k + 1) < last.length - k; omega) (by repeat' (first | exact True.intro | refine And.intro rfl ?_)) (by dsimp only; rw [hstep]; show _ = [_, rowO _ _ _ (vs.set xn v).length _, _, _, _]; rw [List.length_set]; rfl)
  · obtain rfl : k = last.length := by omega
    rw [List.take_of_length_le (Nat.le_refl _)]
    repeat (first
      | refine QV QP ?_ | refine QZ ?_ | refine qcT rfl ?_ | refine qcF rfl ?_ | refine E_blockX ?_ | refine E_blockO rfl ?_ | refine QV QL ?_
      | refine QV QA ?_ | refine QV (rr_nilc rfl) ?_ | refine QV QlT ?_ | refine QV QlF ?_ | refine QV QaA ?_)
    exact E_end0 rfl fun w hm => hm.meetsB (S := behSp g vc vr vf vfol vl ve rule (.slice aa last.length ca) vb fol last first) (vs, F) i2 [0, 1, 2, 3, 4] (by decide) rfl
end Go.Proofs.Ytkmemlnkijinlaa.eng

/- RexS -/
namespace Go.Proofs.Ytkmemlnkijinlaa.eng
open Go.RowKit kit mix classL rexL
/-- an expression that can be read, its blocks being in F -/
inductive RexIs (F : Nat → Prop) (w : World) : List Value → Rx → Prop
  | mk {k : Int} {c : C4} {kids : List Rx} {base : Option Addr} {cap : Nat} (css : List (List Value)) : kit.okI64 k → kids.length ≤ cap → cap ≤ maxLen → css.length = kids.length →
    (∀ i (h : i < kids.length) (h' : i < css.length), RexIs F w css[i] kids[i]) → (0 < kids.length → ∃ b off, base = some ⟨b, off, none⟩ ∧ F b ∧ ∀ i (_ : i < kids.length) (h' : i < css.length), Rd w b (off + i * 6) css[i]) →
    RexIs F w (.int .i64 k :: (clsL c ++ [.slice base kids.length cap])) (.mk k c kids)
theorem RexIs.len6 {F : Nat → Prop} {w : World} {cs : List Value} {t : Rx} (h : RexIs F w cs t) : cs.length = 6 := by
  cases h; rfl
theorem RexIs.stayed {F : Nat → Prop} {w w' : World} {cs : List Value} {t : Rx} (h : RexIs F w cs t) (hk : ∀ k, F k → w'.heap[k]? = w.heap[k]?) : RexIs F w' cs t := by
  induction h with
  | mk css h2 h3 h4 h5 h6 h7 ih =>
    refine .mk css h2 h3 h4 h5 ih fun hl => ?_
    obtain ⟨b, off, e, hF, hr⟩ := h7 hl
    exact ⟨b, off, e, hF, fun i hi hi' => rd_stay (hr i hi hi') (hk b hF)⟩
theorem RexIs.mono {F F' : Nat → Prop} {w : World} {cs : List Value} {t : Rx} (h : RexIs F w cs t) (hk : ∀ k, F k → F' k) : RexIs F' w cs t := by
  induction h with
  | mk css h2 h3 h4 h5 h6 h7 ih =>
    refine .mk css h2 h3 h4 h5 ih fun hl => ?_
    obtain ⟨b, off, e, hF, hr⟩ := h7 hl
    exact ⟨b, off, e, hk b hF, hr⟩
def rexS : Shp Rx := ⟨6, RexIs, fun h => h.len6, fun h hk => h.stayed hk, fun h hk => h.mono hk⟩
def rexC (k : Int) (c : C4) (v : Value) : List Value := .int .i64 k :: (clsL c ++ [v])
def rexV (k : Int) (c : C4) (v : Value) : Value := .agg (rexC k c v).toArray
theorem rex_iff {F : Nat → Prop} {w : World} {cs : List Value} {k : Int} {c : C4} {kids : List Rx} : RexIs F w cs (.mk k c kids) ↔ ∃ v, cs = rexC k c v ∧ kit.okI64 k ∧ SlF rexS F w v kids := by
  constructor
  · intro h
    cases h with
    | mk css h2 h3 h4 h5 h6 h7 =>
      refine ⟨_, rfl, h2, _, _, rfl, h3, h4, fun hl => ?_⟩
      obtain ⟨b, off, e, hF, hr⟩ := h7 hl
      exact ⟨b, off, e, hF, fun i hi => ⟨css[i]'(by omega), h6 i hi (by omega), hr i hi (by omega)⟩⟩
  · rintro ⟨v, rfl, h2, base, cap, rfl, h3, h4, h5⟩
    by_cases hl : 0 < kids.length
    · obtain ⟨b, off, e, hF, hr⟩ := h5 hl
      have hlen : (List.ofFn fun i : Fin kids.length => Classical.choose (hr i i.2)).length = kids.length := by simp
      refine .mk (List.ofFn fun i : Fin kids.length => Classical.choose (hr i i.2)) h2 h3 h4 hlen (fun i hi hi' => ?_) fun _ => ⟨b, off, e, hF, fun i hi hi' => ?_⟩
      · rw [List.getElem_ofFn]; exact (Classical.choose_spec (hr i hi)).1
      · rw [List.getElem_ofFn]; exact (Classical.choose_spec (hr i hi)).2
    · have : kids = [] := List.eq_nil_of_length_eq_zero (by omega)
      subst this
      exact .mk [] h2 h3 h4 rfl (fun i hi => absurd hi (by simp)) fun h => absurd h (by simp)
/-- an expression that is a value -/
def RexR (F : Nat → Prop) (w : World) (v : Value) (r : Rx) : Prop := ∃ vk, v = rexV r.kind r.cls vk ∧ kit.okI64 r.kind ∧ SlF rexS F w vk r.kids
theorem RexR.stay {F : Nat → Prop} {w w' : World} {v : Value} {r : Rx} (h : RexR F w v r) (hk : ∀ k, F k → w'.heap[k]? = w.heap[k]?) : RexR F w' v r :=
  let ⟨vk, h1, h2, h3⟩ := h; ⟨vk, h1, h2, h3.stay hk⟩
theorem RexR.mono {F F' : Nat → Prop} {w : World} {v : Value} {r : Rx} (h : RexR F w v r) (hk : ∀ k, F k → F' k) : RexR F' w v r :=
  let ⟨vk, h1, h2, h3⟩ := h; ⟨vk, h1, h2, h3.mono hk⟩
/-- what is there at all -/
def Low (w : World) : Nat → Prop := fun k => k < w.heap.size
theorem RexR.gr {w w' : World} {v : Value} {r : Rx} (h : RexR (Low w) w v r) (hg : Gr w w') : RexR (Low w') w' v r :=
  (h.stay fun k hk => hg.block k hk).mono fun k hk => Nat.lt_of_lt_of_le hk hg.size
theorem RexR.is {F : Nat → Prop} {w : World} {v : Value} {r : Rx} (h : RexR F w v r) : ∃ cs, v = .agg cs.toArray ∧ RexIs F w cs r := by
  obtain ⟨k, c, kids⟩ := r
  obtain ⟨vk, rfl, h1, h2⟩ := h
  exact ⟨_, rfl, rex_iff.2 ⟨vk, rfl, h1, h2⟩⟩
theorem RexIs.r {F : Nat → Prop} {w : World} {cs : List Value} {r : Rx} (h : RexIs F w cs r) : RexR F w (.agg cs.toArray) r := by
  obtain ⟨k, c, kids⟩ := r
  obtain ⟨vk, rfl, h1, h2⟩ := rex_iff.1 h
  exact ⟨vk, rfl, h1, h2⟩
/-- a kid -/
theorem rkid_at {F : Nat → Prop} {w : World} {b off : Nat} {l : List Rx} (h : ∀ i (h : i < l.length), ∃ cs, rexS.is F w cs l[i] ∧ Rd w b (off + i * rexS.c) cs) {k : Nat} (hk : k < l.length) :
    ∃ base cap, Rd w b (off + k * 6) (rexC l[k].kind l[k].cls (.slice base l[k].kids.length cap)) ∧ RexR F w (rexV l[k].kind l[k].cls (.slice base l[k].kids.length cap)) l[k] := by
  obtain ⟨cs, h1, hr⟩ := h k hk
  have h1 : RexIs F w cs l[k] := h1
  generalize l[k] = r at *
  obtain ⟨kd, c, kids⟩ := r
  obtain ⟨vk, rfl, a1, a2⟩ := rex_iff.1 h1
  have a2' := a2
  obtain ⟨base, cap, rfl, _⟩ := a2'
  exact ⟨base, cap, hr, _, rfl, a1, a2⟩
/-! ### numbered -/
/-- a node's kids and their numbers -/
def kidsK (r : Re) (k : Nat) : List (Re × Nat) := match r with
  | .cat a b => [(a, k + 1), (b, k + 1 + a.size)]
  | .alt a b => [(a, k + 1), (b, k + 1 + a.size)]
  | .star a => [(a, k + 1)]
  | _ => []
/-- a numbered node that can be read, its kids' blocks being in F -/
inductive NumIs (F : Nat → Prop) (w : World) : List Value → Re × Nat → Prop
  | mk {r : Re} {k : Nat} {vk : Value} {base : Option Addr} {cap : Nat} (css : List (List Value)) : vk.oneCell' = true → (kidsK r k).length ≤ cap → cap ≤ maxLen → css.length = (kidsK r k).length →
    (∀ i (h : i < (kidsK r k).length) (h' : i < css.length), NumIs F w css[i] (kidsK r k)[i]) → (0 < (kidsK r k).length → ∃ b off, base = some ⟨b, off, none⟩ ∧ F b ∧ ∀ i (_ : i < (kidsK r k).length) (h' : i < css.length), Rd w b (off + i * 8) css[i]) →
    NumIs F w (.int .i64 r.kind :: (clsL r.cls ++ [vk, .int .i64 (k : Int), .slice base (kidsK r k).length cap])) (r, k)
theorem NumIs.stayed {F : Nat → Prop} {w w' : World} {cs : List Value} {t : Re × Nat} (h : NumIs F w cs t) (hk : ∀ k, F k → w'.heap[k]? = w.heap[k]?) : NumIs F w' cs t := by
  induction h with
  | mk css h2 h3 h4 h5 h6 h7 ih =>
    refine .mk css h2 h3 h4 h5 ih fun hl => ?_
    obtain ⟨b, off, e, hF, hr⟩ := h7 hl
    exact ⟨b, off, e, hF, fun i hi hi' => rd_stay (hr i hi hi') (hk b hF)⟩
theorem NumIs.mono {F F' : Nat → Prop} {w : World} {cs : List Value} {t : Re × Nat} (h : NumIs F w cs t) (hk : ∀ k, F k → F' k) : NumIs F' w cs t := by
  induction h with
  | mk css h2 h3 h4 h5 h6 h7 ih =>
    refine .mk css h2 h3 h4 h5 ih fun hl => ?_
    obtain ⟨b, off, e, hF, hr⟩ := h7 hl
    exact ⟨b, off, e, hk b hF, hr⟩
section
variable {P : Program} {n : Nat} {W : Base} {fr : Fr} {L : List Own} {Q : Exit → Act → World → Prop} {ops : Array Oper} {rest : List Oper}
theorem Mem.reownAt {w : World} {i : Nat} {o : Own} (o' : Own) (h : Mem W L w) (hi : L[i]? = some o) (hh : o'.holds w) (hf : ∀ k, o'.foot k → o.foot k) : Mem W (L.set i o') w := by
  have hlen : i < L.length := (List.getElem?_eq_some_iff.1 hi).1
  have hoi := h.owns.all i o hi
  refine ⟨h.low, fun j q hj => ?_, fun j j' q q' hij hj hj' k hk hk' => ?_⟩
  · by_cases e : i = j
    · subst e
      rw [List.getElem?_set_self hlen] at hj
      simp only [Option.some.injEq] at hj; subst hj
      exact ⟨hh, fun k hk => hoi.2 k (hf k hk)⟩
    · rw [List.getElem?_set_ne e] at hj
      exact h.owns.all j q hj
  · by_cases e : i = j
    · subst e
      rw [List.getElem?_set_self hlen] at hj
      rw [List.getElem?_set_ne hij] at hj'
      simp only [Option.some.injEq] at hj; subst hj
      exact h.owns.apart i j' o q' hij hi hj' k (hf k hk) hk'
    · rw [List.getElem?_set_ne e] at hj
      by_cases e' : i = j'
      · subst e'
        rw [List.getElem?_set_self hlen] at hj'
        simp only [Option.some.injEq] at hj'; subst hj'
        exact h.owns.apart j i q o hij hj hi k hk (hf k hk')
      · rw [List.getElem?_set_ne e'] at hj'
        exact h.owns.apart j j' q q' hij hj hj' k hk hk'
end
end Go.Proofs.Ytkmemlnkijinlaa.eng

/- PlN -/
namespace Go.Proofs.Ytkmemlnkijinlaa.eng
open Go.RowKit kit mix classL rexL placesL
/-- blocks that are there already, and stay -/
def OldB (B : Base) (k : Nat) : Prop := k < B.w.heap.size ∧ ¬ B.X k
theorem at_oldB {B : Base} {L : List Own} {b off : Nat} {cs : List Value} (hb : OldB B b) (h : Rd B.w b off cs) (j : Nat) (v : Value) (hj : cs[j]? = some v) : At B L ⟨b, off + j, none⟩ v := fun w hm =>
  rd_stay h (hm.low.block b hb.1 hb.2) j v hj
theorem old_on {B : Base} {Lx : List Own} {w : World} (hm : Mem B Lx w) {k : Nat} (hk : OldB B k) : OldB (Base.on w Lx) k := by
  refine ⟨Nat.lt_of_lt_of_le hk.1 hm.low.size, ?_⟩
  rintro ⟨o, ho, hf⟩
  obtain ⟨i, hi⟩ := List.mem_iff_getElem?.1 ho
  rcases (hm.owns.all i o hi).2 k hf with h | h
  · have := hk.1; omega
  · exact hk.2 h
theorem rex_on {B : Base} {Lx : List Own} {w : World} {v : Value} {r : Rx} (hm : Mem B Lx w) (h : RexR (OldB B) B.w v r) : RexR (OldB (Base.on w Lx)) w v r :=
  (h.stay fun k hk => hm.low.block k hk.1 hk.2).mono fun _ hk => old_on hm hk
/-- what the maker has -/
structure MIx where
  vc : Value
  vr : Value
  vfol : Value
  vl : Value
  vs : List Value
  F : Nat → Prop
def mkL (g : Nat) (vf ve : Value) (rule : Int) (x : MIx) (p : PS) : List Own :=
  [blkO g (mkC x.vc x.vr vf x.vfol x.vl ve rule) 102, rowO 60 4 x.vc p.classes.length (p.classes.flatMap clsL), intR x.vr p.rules, folR x.vfol x.vs, folE x.F x.vs p.follow, rowO 4 1 x.vl p.last.length (p.last.map Value.bool)]
def nodeSp (g : Nat) (vf ve : Value) (rule : Int) (R : Shape × PS) : Spec (MIx × Value × Value) :=
  ⟨fun x => x.1.vs.length = R.2.follow.length, fun x => .agg #[.bool R.1.empty, x.2.1, x.2.2], fun x => mkL g vf ve rule x.1 R.2 ++ [intR x.2.1 R.1.first, intR x.2.2 R.1.last]⟩
theorem build_shp0 (w : World) : (Instr.build 104 (#[] : Array (Nat × Value))).run Try.prog w = .ok (.agg #[.bool false, .slice none 0 0, .slice none 0 0]) w := by
  go_simp
theorem build_shpT (w : World) : (Instr.build 104 #[(0, .bool true)]).run Try.prog w = .ok (.agg #[.bool true, .slice none 0 0, .slice none 0 0]) w := by
  go_simp
/-- what a node's kids are called with -/
def NodeAt (M : Nat) : Prop := ∀ (e : Re), e.size ≤ M → ∀ (g : Nat) (vf ve : Value) (rule : Int) (p : PS) (x : MIx) (v : Value) (w : World) (B : Base), PSOk p → x.vs.length = p.follow.length → p.classes.length + e.size ≤ 100000 → kit.okI64 rule → RexR (OldB B) B.w v (emb e) → Mem B (mkL g vf ve rule x p) w →
  Calls Try.prog 40 #[.pointer (some ⟨g, 0, none⟩), v] w (MeetsB (nodeSp g vf ve rule (nodeF rule e p)) B)
set_option maxHeartbeats 8000000 in
theorem node_none (g : Nat) (vf ve : Value) (rule : Int) (p : PS) (x : MIx) (v : Value) (w : World) (B : Base) (hx : x.vs.length = p.follow.length) (hv : RexR (OldB B) B.w v (emb .none)) (hm : Mem B (mkL g vf ve rule x p) w) :
    Calls Try.prog 40 #[.pointer (some ⟨g, 0, none⟩), v] w (MeetsB (nodeSp g vf ve rule (nodeF rule .none p)) B) := by
  obtain ⟨vk, rfl, _, hks⟩ := hv
  obtain ⟨bk, ck, rfl, -⟩ := hks
  unfold mkL at hm
  refine enterB hm (args := [.pointer (some ⟨g, 0, none⟩), rexV (emb .none).kind (emb .none).cls (.slice bk (emb .none).kids.length ck)]) (n := 176) Try.func40 rfl rfl rfl ?_
  clear hm
  refine T_seq (T_region (TL_box rfl rfl rfl fun g3 => TL_new rfl fun g4 => ?_))
  conv => arg 8; simp only [zA, zB, zC, zD, zE, zF, zG, zH, zI, rowS, ret, id_eq]
  repeat (first
    | refine QV QP ?_ | refine QZ ?_ | refine qcT rfl ?_ | refine qcF rfl ?_ | refine qs rfl rfl rfl rfl rfl rfl ?_
    | ((try refine qg rfl rfl rfl ?_); first | refine QV QP ?_ | refine QV (rr_load1 (v := .int .i64 1) TyC.ty rfl (at_blk (i := 6) rfl rfl)) ?_ | refine QV (rr_build rfl build_shp0) ?_ | refine QV QL ?_ | refine QV QA ?_ | refine QV (rr_nilc rfl) ?_ | refine QV QeT ?_ | refine QV QeF ?_))
  refine TL_storeB (i := 7) rfl rfl rfl rfl rfl rfl ?_
  conv => arg 8; simp only [zA, zB, zC, zD, zE, zF, zG, zH, zI, rowS, ret, id_eq]
  repeat (first
    | refine QV QP ?_ | refine QZ ?_ | refine qcT rfl ?_ | refine qcF rfl ?_ | refine qs rfl rfl rfl rfl rfl rfl ?_
    | ((try refine qg rfl rfl rfl ?_); first | refine QV QP ?_ | refine QV QL ?_ | refine QV QA ?_ | refine QV (rr_nilc rfl) ?_ | refine QV QeT ?_ | refine QV QeF ?_))
  refine E_nilrow 3 1 (E_nilrow 3 1 ?_)
  exact E_retc1 (i := 7) rfl rfl rfl rfl fun w hm => hm.meetsB (S := nodeSp g vf ve rule (nodeF rule .none p)) (x, .slice none 0 0, .slice none 0 0) hx [0, 1, 2, 3, 4, 5, 8, 9] (by decide) rfl
set_option maxHeartbeats 8000000 in
theorem node_empty (g : Nat) (vf ve : Value) (rule : Int) (p : PS) (x : MIx) (v : Value) (w : World) (B : Base) (hx : x.vs.length = p.follow.length) (hv : RexR (OldB B) B.w v (emb .empty)) (hm : Mem B (mkL g vf ve rule x p) w) :
    Calls Try.prog 40 #[.pointer (some ⟨g, 0, none⟩), v] w (MeetsB (nodeSp g vf ve rule (nodeF rule .empty p)) B) := by
  obtain ⟨vk, rfl, _, hks⟩ := hv
  obtain ⟨bk, ck, rfl, -⟩ := hks
  unfold mkL at hm
  refine enterB hm (args := [.pointer (some ⟨g, 0, none⟩), rexV (emb .empty).kind (emb .empty).cls (.slice bk (emb .empty).kids.length ck)]) (n := 176) Try.func40 rfl rfl rfl ?_
  clear hm
  refine T_seq (T_region (TL_box rfl rfl rfl fun g3 => TL_new rfl fun g4 => ?_))
  conv => arg 8; simp only [zA, zB, zC, zD, zE, zF, zG, zH, zI, rowS, ret, id_eq]
  repeat (first
    | refine QV QP ?_ | refine QZ ?_ | refine qcT rfl ?_ | refine qcF rfl ?_ | refine qs rfl rfl rfl rfl rfl rfl ?_
    | ((try refine qg rfl rfl rfl ?_); first | refine QV QP ?_ | refine QV (rr_load1 (v := .int .i64 2) TyC.ty rfl (at_blk (i := 6) rfl rfl)) ?_ | refine QV (rr_build rfl build_shpT) ?_ | refine QV QL ?_ | refine QV QA ?_ | refine QV (rr_nilc rfl) ?_ | refine QV QeT ?_ | refine QV QeF ?_))
  refine TL_storeB (i := 7) rfl rfl rfl rfl rfl rfl ?_
  conv => arg 8; simp only [zA, zB, zC, zD, zE, zF, zG, zH, zI, rowS, ret, id_eq]
  repeat (first
    | refine QV QP ?_ | refine QZ ?_ | refine qcT rfl ?_ | refine qcF rfl ?_ | refine qs rfl rfl rfl rfl rfl rfl ?_
    | ((try refine qg rfl rfl rfl ?_); first | refine QV QP ?_ | refine QV QL ?_ | refine QV QA ?_ | refine QV (rr_nilc rfl) ?_ | refine QV QeT ?_ | refine QV QeF ?_))
  refine E_nilrow 3 1 (E_nilrow 3 1 ?_)
  exact E_retc1 (i := 7) rfl rfl rfl rfl fun w hm => hm.meetsB (S := nodeSp g vf ve rule (nodeF rule .empty p)) (x, .slice none 0 0, .slice none 0 0) hx [0, 1, 2, 3, 4, 5, 8, 9] (by decide) rfl
/-- the maker's rule, which nodes leave alone -/
def ruleO (g : Nat) (rule : Int) : Own :=
  ⟨some g, fun _ => False, fun w => ∃ vc vr vf vfol vl ve, w.heap[g]? = some (.cells (mkC vc vr vf vfol vl ve rule) 102 (0, 0)), fun w ⟨_, _, _, _, _, _, h⟩ k hk => by simp only [Option.some.injEq, or_false] at hk; subst hk; exact (Array.getElem?_eq_some_iff.1 h).1,
    fun w w' ⟨vc, vr, vf, vfol, vl, ve, h⟩ _ hb => ⟨vc, vr, vf, vfol, vl, ve, by rw [hb g (.inl rfl)]; exact h⟩⟩
theorem sub_rule {B : Base} {L : List Own} {g : Nat} {vc vr vf vfol vl ve : Value} {rule : Int} (h : L[0]? = some (blkO g (mkC vc vr vf vfol vl ve rule) 102)) : ∀ w, Mem B L w → Mem B [ruleO g rule] w := fun w hm => by
  have h1 := hm.pick (L' := [blkO g (mkC vc vr vf vfol vl ve rule) 102]) [0] (by decide) (by simp [h])
  exact h1.reownAt (i := 0) (ruleO g rule) rfl ⟨vc, vr, vf, vfol, vl, ve, h1.get (i := 0) rfl⟩ fun k hk => hk
theorem at_rule {B : Base} {L : List Own} {g i : Nat} {rule : Int} (h : L[i]? = some (ruleO g rule)) : At B L ⟨g, 6, none⟩ (.int .i64 rule) := fun w hm => by
  obtain ⟨vc, vr, vf, vfol, vl, ve, h⟩ := (hm.get h : (ruleO g rule).holds w)
  rw [cell_of_row w g 6 _ _ _ h]; rfl
theorem cls_one (c : C4) (u : Value) (h : u ∈ clsL c) : u.oneCell' = true := by
  simp only [clsL, List.mem_cons, List.not_mem_nil, or_false] at h
  rcases h with rfl | rfl | rfl | rfl <;> rfl
theorem rexcls_at (c : C4) {k : Int} {vk v : Value} {j : Nat} (hj : (clsL c)[j]? = some v) : ((rexC k c vk).toArray)[1 + j]? = some v := by
  match j, hj with
  | 0, hj => exact hj
  | 1, hj => exact hj
  | 2, hj => exact hj
  | 3, hj => exact hj
theorem build_shp2 (b b' : Option Addr) (m m' k k' : Nat) (w : World) : (Instr.build 104 #[(1, .slice b m k), (2, .slice b' m' k')]).run Try.prog w = .ok (.agg #[.bool false, .slice b m k, .slice b' m' k']) w := by
  go_simp
theorem intR_snoc (v : Value) (l : List Int) (x : Int) : rowO 3 1 v (l.length + 1) (l.map (Value.int .i64) ++ [.int .i64 x]) = intR v (l ++ [x]) := by
  show _ = rowO 3 1 v (l ++ [x]).length ((l ++ [x]).map (Value.int .i64))
  rw [List.length_append, List.map_append]; rfl
theorem fol_snoc (v : Value) (l : List Value) (x : Value) : rowO 24 1 v (l.length + 1) (l.flatMap one1 ++ [x]) = folR v (l ++ [x]) := by
  show _ = rowO 24 1 v (l ++ [x]).length ((l ++ [x]).flatMap one1)
  rw [List.length_append, List.flatMap_append]; rfl
theorem bool_snoc (v : Value) (l : List Bool) (x : Bool) : rowO 4 1 v (l.length + 1) (l.map Value.bool ++ [.bool x]) = rowO 4 1 v (l ++ [x]).length ((l ++ [x]).map Value.bool) := by
  rw [List.length_append, List.map_append]; rfl
theorem one_row {w : World} {g : Nat} {n : Int} (h : (blkO g #[.int .i64 n] 3).holds w) : (intR (.slice (some ⟨g, 0, none⟩) 1 1) [n]).holds w :=
  ⟨rfl, .inr ⟨g, 1, _, rfl, Nat.zero_le _, h, Nat.le_refl _, by decide, rfl, rfl⟩⟩
set_option maxHeartbeats 16000000 in
theorem node_byte (c : C4) (g : Nat) (vf ve : Value) (rule : Int) (p : PS) (x : MIx) (v : Value) (w : World) (B : Base) (hp : PSOk p) (hx : x.vs.length = p.follow.length) (hn : p.classes.length ≤ 100000) (hv : RexR (OldB B) B.w v (emb (.byte c))) (hm : Mem B (mkL g vf ve rule x p) w) :
    Calls Try.prog 40 #[.pointer (some ⟨g, 0, none⟩), v] w (MeetsB (nodeSp g vf ve rule (nodeF rule (.byte c) p)) B) := by
  obtain ⟨vk, rfl, _, hks⟩ := hv
  obtain ⟨bk, ck, rfl, -⟩ := hks
  obtain ⟨vc, vr, vfol, vl, vs, F⟩ := x
  unfold mkL at hm
  dsimp only at hx hm
  refine enterB hm (args := [.pointer (some ⟨g, 0, none⟩), rexV (emb (.byte c)).kind (emb (.byte c)).cls (.slice bk (emb (.byte c)).kids.length ck)]) (n := 176) Try.func40 rfl rfl rfl ?_
  clear hm
  refine T_seq (T_region (TL_box rfl rfl rfl fun g3 => TL_new rfl fun g4 => ?_))
  conv => arg 8; simp only [zA, zB, zC, zD, zE, zF, zG, zH, zI, rowS, ret, id_eq]
  refine TL_rowv (i := 1) rfl fun bc cc hvc hc1 hc2 => ?_
  subst hvc
  repeat (first
    | refine QV QP ?_ | refine QZ ?_ | refine qcT rfl ?_ | refine qcF rfl ?_ | refine qs rfl rfl rfl rfl rfl rfl ?_
    | ((try refine qg rfl rfl rfl ?_); first | refine QV QP ?_ | refine QV (rr_load1 (v := .int .i64 3) TyC.ty rfl (at_blk (i := 6) rfl rfl)) ?_ | refine QV (rr_nilc rfl) ?_ | refine QV (rr_load1 (v := .slice bc p.classes.length cc) TyC.ty rfl (at_blk (i := 0) rfl rfl)) ?_ | refine QV QL ?_ | refine QV QA ?_ | refine QV (rr_nilc rfl) ?_ | refine QV QeT ?_ | refine QV QeF ?_))
  (repeat refine T_seq ?_)
  refine T_midq (ι := Value) (fun _ => True) (fun _ => [(0, .pointer (some ⟨g, 0, none⟩)), (3, .pointer (some ⟨g3, 0, none⟩)), (4, .pointer (some ⟨g4, 0, none⟩)), (5, .int .i64 p.classes.length)])
    (fun vc' => [blkO g (mkC vc' vr vf vfol vl ve rule) 102, rowO 60 4 vc' (p.classes ++ [c]).length ((p.classes ++ [c]).flatMap clsL), intR vr p.rules, folR vfol vs, folE F vs p.follow, rowO 4 1 vl p.last.length (p.last.map Value.bool), blkO g4 #[.bool false, .slice none 0 0, .slice none 0 0] 104]) ?_ ?_
  · refine T_ord ([blkO g3 (rexC 3 c (.slice bk 0 ck)).toArray 63]) (.calm 0 (.calm 1 (.calm 2 (.calm 3 (.calm 4 (.calm 6 (.calm 7 (.two 5 (.one 8 (.one 9 (.calm 10 (.calm 11 (.calm 12 (.one 13 (.done))))))) 8 (.one 5 (.one 9 (.calm 10 (.calm 11 (.calm 12 (.one 13 (.done))))))))))))))) (sub_pick [6] (by decide) rfl) (by kernel_rfl) (by kernel_rfl) (by intro c a d v w h; cases d <;> exact h) ?_
    repeat (first
      | ((first | refine TW_plain rfl rfl ?_ | refine TW_gmet rfl rfl rfl rfl ?_); first | refine QW QP ?_ | refine QW (rr_nilc rfl) ?_ | refine QW (rr_loadN (cs := clsL c) TyC.ty rfl rfl (fun j v hj => at_blk (i := 0) rfl (rexcls_at c hj))) ?_ | refine QW QL ?_ | refine QW QA ?_ | refine QW (rr_nilc rfl) ?_ | refine QW QeT ?_ | refine QW QeF ?_)
      | refine TW_skip rfl rfl rfl rfl rfl rfl rfl ?_ | refine TW_done ?_)
    refine TW_two rfl rfl ?_ ?_
    · refine TL_val (rr_load1 (v := .slice bc p.classes.length cc) TyC.ty rfl (at_blk (i := 0) rfl rfl)) rfl rfl rfl (TW_on (sub_pick [6] (by decide) rfl) ?_)
      refine TW_one rfl (TL_litN (cs := (clsL c).toArray) [clsV c] rfl rfl rfl (by intro v hv; simp at hv; subst hv; rfl) rfl rfl rfl fun g33 => (TW_on (sub_pick [6] (by decide) rfl) ?_))
      refine TW_one rfl (TL_appSl (i := 1) (e := 60) (size := 4) (bytes := 32) (m := p.classes.length) (xs := p.classes.flatMap clsL) (k := 1) (ys := clsL c) rfl (sl_blk (i := 8) rfl (fun j u h => by simpa using h) (Nat.le_refl 1) (by decide)) rfl rfl rfl (fun u hu => cls_one c u hu) (by omega) (by omega) rfl fun vc' => (TW_on (sub_pick [6] (by decide) rfl) ?_))
      repeat (first
        | ((first | refine TW_plain rfl rfl ?_ | refine TW_gmet rfl rfl rfl rfl ?_); first | refine QW QP ?_ | refine QW (rr_nilc rfl) ?_ | refine QW QL ?_ | refine QW QA ?_ | refine QW (rr_nilc rfl) ?_ | refine QW QeT ?_ | refine QW QeF ?_)
        | refine TW_skip rfl rfl rfl rfl rfl rfl rfl ?_ | refine TW_done ?_)
      refine TW_one rfl (TL_slv (i := 1) rfl fun hv1 hv2 => TL_store1 (i := 0) rfl rfl rfl hv1 hv2 rfl (TW_on (sub_pick [6] (by decide) rfl) ?_))
      repeat (first
        | ((first | refine TW_plain rfl rfl ?_ | refine TW_gmet rfl rfl rfl rfl ?_); first | refine QW QP ?_ | refine QW QL ?_ | refine QW QA ?_ | refine QW (rr_nilc rfl) ?_ | refine QW QeT ?_ | refine QW QeF ?_)
        | refine TW_skip rfl rfl rfl rfl rfl rfl rfl ?_ | refine TW_done ?_)
      refine E_pick [0, 1, 2, 3, 4, 5, 7] (by decide) rfl ?_
      exact E_mid vc' trivial (by repeat' (first | exact True.intro | refine And.intro rfl ?_)) (by rw [List.length_append, List.flatMap_append]; rfl)
    · refine TL_litN (cs := (clsL c).toArray) [clsV c] rfl rfl rfl (by intro v hv; simp at hv; subst hv; rfl) rfl rfl rfl fun g33 => (TW_on (sub_pick [6] (by decide) rfl) ?_)
      refine TW_one rfl (TL_val (rr_load1 (v := .slice bc p.classes.length cc) TyC.ty rfl (at_blk (i := 0) rfl rfl)) rfl rfl rfl (TW_on (sub_pick [6] (by decide) rfl) ?_))
      refine TW_one rfl (TL_appSl (i := 1) (e := 60) (size := 4) (bytes := 32) (m := p.classes.length) (xs := p.classes.flatMap clsL) (k := 1) (ys := clsL c) rfl (sl_blk (i := 8) rfl (fun j u h => by simpa using h) (Nat.le_refl 1) (by decide)) rfl rfl rfl (fun u hu => cls_one c u hu) (by omega) (by omega) rfl fun vc' => (TW_on (sub_pick [6] (by decide) rfl) ?_))
      repeat (first
        | ((first | refine TW_plain rfl rfl ?_ | refine TW_gmet rfl rfl rfl rfl ?_); first | refine QW QP ?_ | refine QW (rr_nilc rfl) ?_ | refine QW QL ?_ | refine QW QA ?_ | refine QW (rr_nilc rfl) ?_ | refine QW QeT ?_ | refine QW QeF ?_)
        | refine TW_skip rfl rfl rfl rfl rfl rfl rfl ?_ | refine TW_done ?_)
      refine TW_one rfl (TL_slv (i := 1) rfl fun hv1 hv2 => TL_store1 (i := 0) rfl rfl rfl hv1 hv2 rfl (TW_on (sub_pick [6] (by decide) rfl) ?_))
      repeat (first
        | ((first | refine TW_plain rfl rfl ?_ | refine TW_gmet rfl rfl rfl rfl ?_); first | refine QW QP ?_ | refine QW QL ?_ | refine QW QA ?_ | refine QW (rr_nilc rfl) ?_ | refine QW QeT ?_ | refine QW QeF ?_)
        | refine TW_skip rfl rfl rfl rfl rfl rfl rfl ?_ | refine TW_done ?_)
      refine E_pick [0, 1, 2, 3, 4, 5, 7] (by decide) rfl ?_
      exact E_mid vc' trivial (by repeat' (first | exact True.intro | refine And.intro rfl ?_)) (by rw [List.length_append, List.flatMap_append]; rfl)
  clear hc1 hc2
  intro vc' _
  repeat (first
    | refine QV QP ?_ | refine QZ ?_ | refine qcT rfl ?_ | refine qcF rfl ?_ | refine qs rfl rfl rfl rfl rfl rfl ?_
    | ((try refine qg rfl rfl rfl ?_); first | refine QV QP ?_ | refine QV QL ?_ | refine QV QA ?_ | refine QV (rr_nilc rfl) ?_ | refine QV QeT ?_ | refine QV QeF ?_))
  (repeat refine T_seq ?_)
  have hrl := hp.rules
  refine T_midq (ι := Value) (fun _ => True) (fun _ => [(0, .pointer (some ⟨g, 0, none⟩)), (4, .pointer (some ⟨g4, 0, none⟩)), (5, .int .i64 p.classes.length)])
    (fun vr' => [blkO g (mkC vc' vr' vf vfol vl ve rule) 102, rowO 60 4 vc' (p.classes ++ [c]).length ((p.classes ++ [c]).flatMap clsL), intR vr' (p.rules ++ [rule]), folR vfol vs, folE F vs p.follow, rowO 4 1 vl p.last.length (p.last.map Value.bool), blkO g4 #[.bool false, .slice none 0 0, .slice none 0 0] 104]) ?_ ?_
  · refine T_ord ([ruleO g rule]) (.calm 0 (.calm 1 (.calm 2 (.calm 3 (.calm 4 (.calm 6 (.calm 7 (.calm 8 (.calm 9 (.two 5 (.one 10 (.one 11 (.calm 12 (.calm 13 (.calm 14 (.one 15 (.done))))))) 10 (.one 5 (.one 11 (.calm 12 (.calm 13 (.calm 14 (.one 15 (.done))))))))))))))))) (sub_rule rfl) (by kernel_rfl) (by kernel_rfl) (by intro c a d v w h; cases d <;> exact h) ?_
    repeat (first
      | ((first | refine TW_plain rfl rfl ?_ | refine TW_gmet rfl rfl rfl rfl ?_); first | refine QW QP ?_ | refine QW (rr_nilc rfl) ?_ | refine QW (rr_load1 (v := .int .i64 rule) TyC.ty rfl (at_rule (i := 0) rfl)) ?_ | refine QW QL ?_ | refine QW QA ?_ | refine QW (rr_nilc rfl) ?_ | refine QW QeT ?_ | refine QW QeF ?_)
      | refine TW_skip rfl rfl rfl rfl rfl rfl rfl ?_ | refine TW_done ?_)
    refine TW_two rfl rfl ?_ ?_
    · refine TL_val (rr_load1 (v := vr) TyC.ty rfl (at_blk (i := 0) rfl rfl)) rfl rfl rfl (TW_on (sub_rule rfl) ?_)
      refine TW_one rfl (TL_litN (cs := #[.int .i64 rule]) [.int .i64 rule] rfl rfl rfl (by intro v hv; simp at hv; subst hv; rfl) rfl rfl rfl fun g48 => (TW_on (sub_rule rfl) ?_))
      refine TW_one rfl (TL_appSl (i := 2) (e := 3) (size := 1) (bytes := 8) (m := p.rules.length) (xs := p.rules.map (Value.int .i64)) (k := 1) (ys := [.int .i64 rule]) rfl (sl_blk (i := 7) rfl (fun j u h => by simpa using h) (Nat.le_refl 1) (by decide)) rfl rfl rfl (fun u hu => by rw [List.mem_singleton.1 hu]; rfl) (by omega) (by omega) rfl fun vr' => (TW_on (sub_rule rfl) ?_))
      repeat (first
        | ((first | refine TW_plain rfl rfl ?_ | refine TW_gmet rfl rfl rfl rfl ?_); first | refine QW QP ?_ | refine QW (rr_nilc rfl) ?_ | refine QW QL ?_ | refine QW QA ?_ | refine QW (rr_nilc rfl) ?_ | refine QW QeT ?_ | refine QW QeF ?_)
        | refine TW_skip rfl rfl rfl rfl rfl rfl rfl ?_ | refine TW_done ?_)
      refine TW_one rfl (TL_slv (i := 2) rfl fun hv1 hv2 => TL_store1 (i := 0) rfl rfl rfl hv1 hv2 rfl (TW_on (sub_rule (vc := vc') (vr := vr') (vf := vf) (vfol := vfol) (vl := vl) (ve := ve) rfl) ?_))
      repeat (first
        | ((first | refine TW_plain rfl rfl ?_ | refine TW_gmet rfl rfl rfl rfl ?_); first | refine QW QP ?_ | refine QW QL ?_ | refine QW QA ?_ | refine QW (rr_nilc rfl) ?_ | refine QW QeT ?_ | refine QW QeF ?_)
        | refine TW_skip rfl rfl rfl rfl rfl rfl rfl ?_ | refine TW_done ?_)
      refine E_pick [0, 1, 2, 3, 4, 5, 6] (by decide) rfl ?_
      exact E_mid vr' trivial (by repeat' (first | exact True.intro | refine And.intro rfl ?_)) (by rw [← intR_snoc vr' p.rules rule]; rfl)
    · refine TL_litN (cs := #[.int .i64 rule]) [.int .i64 rule] rfl rfl rfl (by intro v hv; simp at hv; subst hv; rfl) rfl rfl rfl fun g48 => (TW_on (sub_rule rfl) ?_)
      refine TW_one rfl (TL_val (rr_load1 (v := vr) TyC.ty rfl (at_blk (i := 0) rfl rfl)) rfl rfl rfl (TW_on (sub_rule rfl) ?_))
      refine TW_one rfl (TL_appSl (i := 2) (e := 3) (size := 1) (bytes := 8) (m := p.rules.length) (xs := p.rules.map (Value.int .i64)) (k := 1) (ys := [.int .i64 rule]) rfl (sl_blk (i := 7) rfl (fun j u h => by simpa using h) (Nat.le_refl 1) (by decide)) rfl rfl rfl (fun u hu => by rw [List.mem_singleton.1 hu]; rfl) (by omega) (by omega) rfl fun vr' => (TW_on (sub_rule rfl) ?_))
      repeat (first
        | ((first | refine TW_plain rfl rfl ?_ | refine TW_gmet rfl rfl rfl rfl ?_); first | refine QW QP ?_ | refine QW (rr_nilc rfl) ?_ | refine QW QL ?_ | refine QW QA ?_ | refine QW (rr_nilc rfl) ?_ | refine QW QeT ?_ | refine QW QeF ?_)
        | refine TW_skip rfl rfl rfl rfl rfl rfl rfl ?_ | refine TW_done ?_)
      refine TW_one rfl (TL_slv (i := 2) rfl fun hv1 hv2 => TL_store1 (i := 0) rfl rfl rfl hv1 hv2 rfl (TW_on (sub_rule (vc := vc') (vr := vr') (vf := vf) (vfol := vfol) (vl := vl) (ve := ve) rfl) ?_))
      repeat (first
        | ((first | refine TW_plain rfl rfl ?_ | refine TW_gmet rfl rfl rfl rfl ?_); first | refine QW QP ?_ | refine QW QL ?_ | refine QW QA ?_ | refine QW (rr_nilc rfl) ?_ | refine QW QeT ?_ | refine QW QeF ?_)
        | refine TW_skip rfl rfl rfl rfl rfl rfl rfl ?_ | refine TW_done ?_)
      refine E_pick [0, 1, 2, 3, 4, 5, 6] (by decide) rfl ?_
      exact E_mid vr' trivial (by repeat' (first | exact True.intro | refine And.intro rfl ?_)) (by rw [← intR_snoc vr' p.rules rule]; rfl)
  intro vr' _
  have hfl := hp.follow
  have hll := hp.last
  repeat (first
    | refine QV QP ?_ | refine QZ ?_ | refine qcT rfl ?_ | refine qcF rfl ?_ | refine qs rfl rfl rfl rfl rfl rfl ?_
    | ((try refine qg rfl rfl rfl ?_); first | refine QV QP ?_ | refine QV (rr_nilc rfl) ?_ | refine QV (rr_load1 (v := vfol) TyC.ty rfl (at_blk (i := 0) rfl rfl)) ?_ | refine QV QL ?_ | refine QV QA ?_ | refine QV (rr_nilc rfl) ?_ | refine QV QeT ?_ | refine QV QeF ?_))
  refine TL_push1 (i := 3) (bytes := 24) rfl rfl rfl rfl rfl rfl (fun z h => by cases h; rfl) (by omega) (by omega) rfl fun z1 vfol' => ?_
  conv => arg 8; simp only [zA, zB, zC, zD, zE, zF, zG, zH, zI, rowS, ret, id_eq]
  repeat (first
    | refine QV QP ?_ | refine QZ ?_ | refine qcT rfl ?_ | refine qcF rfl ?_ | refine qs rfl rfl rfl rfl rfl rfl ?_
    | ((try refine qg rfl rfl rfl ?_); first | refine QV QP ?_ | refine QV (rr_nilc rfl) ?_ | refine QV QL ?_ | refine QV QA ?_ | refine QV (rr_nilc rfl) ?_ | refine QV QeT ?_ | refine QV QeF ?_))
  refine TL_slv (i := 3) rfl fun hv1 hv2 => TL_store1 (i := 0) rfl rfl rfl hv1 hv2 rfl ?_
  conv => arg 8; simp only [zA, zB, zC, zD, zE, zF, zG, zH, zI, rowS, ret, id_eq]
  repeat (first
    | refine QV QP ?_ | refine QZ ?_ | refine qcT rfl ?_ | refine qcF rfl ?_ | refine qs rfl rfl rfl rfl rfl rfl ?_
    | ((try refine qg rfl rfl rfl ?_); first | refine QV QP ?_ | refine QV (rr_nilc rfl) ?_ | refine QV (rr_load1 (v := vl) TyC.ty rfl (at_blk (i := 0) rfl rfl)) ?_ | refine QV QL ?_ | refine QV QA ?_ | refine QV (rr_nilc rfl) ?_ | refine QV QeT ?_ | refine QV QeF ?_))
  refine TL_push1 (i := 5) (bytes := 1) rfl rfl rfl rfl rfl rfl (fun z h => by cases h; rfl) (by omega) (by omega) rfl fun z2 vl' => ?_
  conv => arg 8; simp only [zA, zB, zC, zD, zE, zF, zG, zH, zI, rowS, ret, id_eq]
  repeat (first
    | refine QV QP ?_ | refine QZ ?_ | refine qcT rfl ?_ | refine qcF rfl ?_ | refine qs rfl rfl rfl rfl rfl rfl ?_
    | ((try refine qg rfl rfl rfl ?_); first | refine QV QP ?_ | refine QV (rr_nilc rfl) ?_ | refine QV QL ?_ | refine QV QA ?_ | refine QV (rr_nilc rfl) ?_ | refine QV QeT ?_ | refine QV QeF ?_))
  refine TL_slv (i := 5) rfl fun hv1 hv2 => TL_store1 (i := 0) rfl rfl rfl hv1 hv2 rfl ?_
  conv => arg 8; simp only [zA, zB, zC, zD, zE, zF, zG, zH, zI, rowS, ret, id_eq]
  repeat (first
    | refine QV QP ?_ | refine QZ ?_ | refine qcT rfl ?_ | refine qcF rfl ?_ | refine qs rfl rfl rfl rfl rfl rfl ?_
    | ((try refine qg rfl rfl rfl ?_); first | refine QV QP ?_ | refine QV QL ?_ | refine QV QA ?_ | refine QV (rr_nilc rfl) ?_ | refine QV QeT ?_ | refine QV QeF ?_))
  refine TL_litN (cs := #[.int .i64 p.classes.length]) [.int .i64 p.classes.length] rfl rfl rfl (by intro v hv; simp at hv; subst hv; rfl) rfl rfl rfl fun g76 => ?_
  conv => arg 8; simp only [zA, zB, zC, zD, zE, zF, zG, zH, zI, rowS, ret, id_eq]
  repeat (first
    | refine QV QP ?_ | refine QZ ?_ | refine qcT rfl ?_ | refine qcF rfl ?_ | refine qs rfl rfl rfl rfl rfl rfl ?_
    | ((try refine qg rfl rfl rfl ?_); first | refine QV QP ?_ | refine QV QL ?_ | refine QV QA ?_ | refine QV (rr_nilc rfl) ?_ | refine QV QeT ?_ | refine QV QeF ?_))
  refine TL_litN (cs := #[.int .i64 p.classes.length]) [.int .i64 p.classes.length] rfl rfl rfl (by intro v hv; simp at hv; subst hv; rfl) rfl rfl rfl fun g78 => ?_
  conv => arg 8; simp only [zA, zB, zC, zD, zE, zF, zG, zH, zI, rowS, ret, id_eq]
  repeat (first
    | refine QV QP ?_ | refine QZ ?_ | refine qcT rfl ?_ | refine qcF rfl ?_ | refine qs rfl rfl rfl rfl rfl rfl ?_
    | ((try refine qg rfl rfl rfl ?_); first | refine QV QP ?_ | refine QV (rr_build rfl (build_shp2 _ _ _ _ _ _)) ?_ | refine QV QL ?_ | refine QV QA ?_ | refine QV (rr_nilc rfl) ?_ | refine QV QeT ?_ | refine QV QeF ?_))
  refine TL_storeB (i := 6) (cs' := #[.bool false, .slice (some ⟨g76, 0, none⟩) 1 1, .slice (some ⟨g78, 0, none⟩) 1 1]) rfl rfl rfl rfl rfl rfl ?_
  conv => arg 8; simp only [zA, zB, zC, zD, zE, zF, zG, zH, zI, rowS, ret, id_eq]
  repeat (first
    | refine QV QP ?_ | refine QZ ?_ | refine qcT rfl ?_ | refine qcF rfl ?_ | refine qs rfl rfl rfl rfl rfl rfl ?_
    | ((try refine qg rfl rfl rfl ?_); first | refine QV QP ?_ | refine QV QL ?_ | refine QV QA ?_ | refine QV (rr_nilc rfl) ?_ | refine QV QeT ?_ | refine QV QeF ?_))
  refine E_reown (i := 7) (intR (.slice (some ⟨g76, 0, none⟩) 1 1) [(p.classes.length : Int)]) rfl (fun w h => one_row h) (fun k hk => hk) ?_
  refine E_reown (i := 8) (intR (.slice (some ⟨g78, 0, none⟩) 1 1) [(p.classes.length : Int)]) rfl (fun w h => one_row h) (fun k hk => hk) ?_
  refine E_reown (i := 4) (folE (fun k => F k ∨ False) (vs ++ [.slice none 0 0]) (p.follow ++ [[]])) rfl (fun w h => by
    have := els_snoc (F2 := fun _ => False) h (show folS.is (fun _ => False) w [.slice none 0 0] [] from ⟨_, rfl, fun _ h => (by cases h), ⟨rfl, .inl ⟨rfl, rfl⟩⟩, fun _ h => (by cases h)⟩) (fun k hk => hk.elim)
    rw [show vs.map one1 ++ [[Value.slice none 0 0]] = (vs ++ [Value.slice none 0 0]).map one1 by rw [List.map_append]; rfl] at this
    exact this) (fun k hk => hk.elim (fun h => by cases h) fun h => h.elim (fun h => .inr h) False.elim) ?_
  refine E_retc1 (i := 6) rfl rfl rfl rfl fun w hm => ?_
  refine hm.meetsB (S := nodeSp g vf ve rule (nodeF rule (.byte c) p)) (⟨vc', vr', vfol', vl', vs ++ [.slice none 0 0], fun k => F k ∨ False⟩, .slice (some ⟨g76, 0, none⟩) 1 1, .slice (some ⟨g78, 0, none⟩) 1 1) (by show (vs ++ [_]).length = (p.follow ++ [[]]).length; rw [List.length_append, List.length_append, hx]; rfl) [0, 1, 2, 3, 4, 5, 7, 8] (by decide) ?_
  show [_, _, _, folR vfol' (vs ++ [Value.slice none 0 0]), _, rowO 4 1 vl' (p.last ++ [false]).length ((p.last ++ [false]).map Value.bool), _, _] = _
  rw [← fol_snoc, ← bool_snoc]; rfl
end Go.Proofs.Ytkmemlnkijinlaa.eng

/- PlS -/
namespace Go.Proofs.Ytkmemlnkijinlaa.eng
open Go.RowKit kit mix classL rexL placesL
set_option maxHeartbeats 16000000 in
theorem node_star {M : Nat} (IH : NodeAt M) (a : Re) (ha : a.size ≤ M) (g : Nat) (vf ve : Value) (rule : Int) (p : PS) (x : MIx) (v : Value) (w : World) (B : Base) (hp : PSOk p) (hx : x.vs.length = p.follow.length) (hn : p.classes.length + (a.size + 1) ≤ 100000) (hr64 : kit.okI64 rule) (hv : RexR (OldB B) B.w v (emb (.star a))) (hm : Mem B (mkL g vf ve rule x p) w) :
    Calls Try.prog 40 #[.pointer (some ⟨g, 0, none⟩), v] w (MeetsB (nodeSp g vf ve rule (nodeF rule (.star a) p)) B) := by
  obtain ⟨vk, rfl, _, hks⟩ := hv
  obtain ⟨bk, ck, rfl, h1, h2, h3⟩ := hks
  obtain ⟨b, off, rfl, hF, hrd⟩ := h3 (by show 0 < 1; decide)
  obtain ⟨kb, kc, hr, hkid⟩ := rkid_at (k := 0) hrd (by show 0 < 1; decide)
  have hat := fun (L : List Own) (j : Nat) (v : Value) hj => at_oldB (L := L) hF hr j v hj
  clear h3 hrd hr
  obtain ⟨hp1, hp2, hp3, hp4, hp5⟩ := node_ok rule a p hp
  have hspec : nodeF rule (.star a) p = (⟨true, (nodeF rule a p).1.first, (nodeF rule a p).1.last⟩, { (nodeF rule a p).2 with follow := behindF (nodeF rule a p).2.follow (nodeF rule a p).1.last (nodeF rule a p).1.first }) := rfl
  have hIH := fun w B hv hm => IH a ha g vf ve rule p x (rexV (emb a).kind (emb a).cls (.slice kb (emb a).kids.length kc)) w B hp hx (by omega) hr64 hv hm
  rw [hspec]
  generalize nodeF rule a p = R at *
  obtain ⟨⟨e, first, last⟩, p'⟩ := R
  dsimp only at hp1 hp2 hp3 hp4 hp5 ⊢
  clear hspec
  unfold mkL at hm
  refine enterB hm (args := [.pointer (some ⟨g, 0, none⟩), rexV 6 C4.zero (.slice (some ⟨b, off, none⟩) 1 ck)]) (n := 176) Try.func40 rfl rfl rfl ?_
  clear hm
  refine T_seq (T_region (TL_box rfl rfl rfl fun g3 => TL_new rfl fun g4 => ?_))
  conv => arg 8; simp only [zA, zB, zC, zD, zE, zF, zG, zH, zI, rowS, ret, id_eq]
  repeat (first
    | refine QV QP ?_ | refine QZ ?_ | refine qcT rfl ?_ | refine qcF rfl ?_ | refine qs rfl rfl rfl rfl rfl rfl ?_
    | ((try refine qg rfl rfl rfl ?_); first | refine QV QP ?_ | refine QV (rr_load1 (v := .int .i64 6) TyC.ty rfl (at_blk (i := 6) rfl rfl)) ?_ | refine QV (rr_load1 (v := .slice (some ⟨b, off, none⟩) 1 ck) TyC.ty rfl (at_blk (i := 6) rfl rfl)) ?_ | refine QV (rr_idxc (j := 0) Und.eq TyC.ty rfl rfl (by decide)) ?_ | refine QV (rr_loadN TyC.ty rfl rfl (hat _)) ?_ | refine QV QL ?_ | refine QV QA ?_ | refine QV (rr_nilc rfl) ?_ | refine QV QeT ?_ | refine QV QeF ?_))
  refine TL_callB [0, 1, 2, 3, 4, 5] [6, 7] (by decide) rfl rfl (he2 EntersC.en rfl rfl rfl) (fun w hm hb => hIH w _ (rex_on (hm.pick [0, 1, 2, 3, 4, 5] (by decide) rfl) hkid) hb) rfl rfl rfl ?_
  rintro ⟨⟨vc, vr, vfol, vl, vs, F⟩, va, vb⟩ hx'
  have hx' : vs.length = p'.follow.length := hx'
  conv => arg 8; simp only [zA, zB, zC, zD, zE, zF, zG, zH, zI, rowS, ret, id_eq, nodeSp, mkL]
  conv => arg 7; simp only [nodeSp]
  refine TL_slv (i := 8) rfl fun hva1 hva2 => ?_
  refine TL_slv (i := 9) rfl fun hvb1 hvb2 => ?_
  refine TL_new rfl fun g6 => ?_
  conv => arg 8; simp only [zA, zB, zC, zD, zE, zF, zG, zH, zI, rowS, ret, id_eq]
  refine TL_storeB (i := 10) (cs' := #[.bool e, va, vb]) rfl rfl rfl rfl (by simp only [List.all_cons, List.all_nil, hva2, hvb2]; rfl) rfl ?_
  conv => arg 8; simp only [zA, zB, zC, zD, zE, zF, zG, zH, zI, rowS, ret, id_eq]
  repeat (first
    | refine QV QP ?_ | refine QZ ?_ | refine qcT rfl ?_ | refine qcF rfl ?_ | refine qs rfl rfl rfl rfl rfl rfl ?_
    | ((try refine qg rfl rfl rfl ?_); first | refine QV QP ?_ | refine QV (rr_load1 (v := vb) TyC.ty rfl (at_blk (i := 10) rfl rfl)) ?_ | refine QV (rr_load1 (v := va) TyC.ty rfl (at_blk (i := 10) rfl rfl)) ?_ | refine QV QL ?_ | refine QV QA ?_ | refine QV (rr_nilc rfl) ?_ | refine QV QeT ?_ | refine QV QeF ?_))
  refine TL_callB [2, 5, 6, 9, 8] [0, 1, 3, 4, 7, 10] (by decide) rfl rfl (he3 EntersC.en rfl rfl rfl rfl) (fun w hm hb => behind_calls g vc vr vf vfol vl ve rule vb va vs F p'.follow last first w _ hx' (by rw [hp1.follow]; omega) (by rw [hp1.follow]; exact hp1.ris) (by rw [hp1.follow]; exact hp5) (by rw [hp1.follow]; exact hp4) hb) rfl rfl rfl ?_
  rintro ⟨vs', F'⟩ hx2
  have hx2 : vs'.length = p'.follow.length := hx2
  conv => arg 8; simp only [zA, zB, zC, zD, zE, zF, zG, zH, zI, rowS, ret, id_eq, behSp]
  repeat (first
    | refine QV QP ?_ | refine QZ ?_ | refine qcT rfl ?_ | refine qcF rfl ?_ | refine qs rfl rfl rfl rfl rfl rfl ?_
    | ((try refine qg rfl rfl rfl ?_); first | refine QV QP ?_ | refine QV QL ?_ | refine QV QA ?_ | refine QV (rr_nilc rfl) ?_ | refine QV QeT ?_ | refine QV QeF ?_))
  refine TL_store1 (i := 5) rfl rfl rfl rfl rfl rfl ?_
  conv => arg 8; simp only [zA, zB, zC, zD, zE, zF, zG, zH, zI, rowS, ret, id_eq]
  repeat (first
    | refine QV QP ?_ | refine QZ ?_ | refine qcT rfl ?_ | refine qcF rfl ?_ | refine qs rfl rfl rfl rfl rfl rfl ?_
    | ((try refine qg rfl rfl rfl ?_); first | refine QV QP ?_ | refine QV (rr_loadB (i := 5) TyC.ty rfl rfl rfl) ?_ | refine QV QL ?_ | refine QV QA ?_ | refine QV (rr_nilc rfl) ?_ | refine QV QeT ?_ | refine QV QeF ?_))
  refine TL_storeB (i := 1) (cs' := #[.bool true, va, vb]) rfl rfl rfl rfl (by simp only [List.all_cons, List.all_nil, hva2, hvb2]; rfl) rfl ?_
  conv => arg 8; simp only [zA, zB, zC, zD, zE, zF, zG, zH, zI, rowS, ret, id_eq]
  repeat (first
    | refine QV QP ?_ | refine QZ ?_ | refine qcT rfl ?_ | refine qcF rfl ?_ | refine qs rfl rfl rfl rfl rfl rfl ?_
    | ((try refine qg rfl rfl rfl ?_); first | refine QV QP ?_ | refine QV QL ?_ | refine QV QA ?_ | refine QV (rr_nilc rfl) ?_ | refine QV QeT ?_ | refine QV QeF ?_))
  refine E_retc1 (i := 1) rfl rfl rfl rfl fun w hm => ?_
  exact hm.meetsB (S := nodeSp g vf ve rule (⟨true, first, last⟩, { p' with follow := behindF p'.follow last first })) (⟨vc, vr, vfol, vl, vs', F'⟩, va, vb) (by show vs'.length = (behindF p'.follow last first).length; rw [behind_len]; exact hx2) [6, 2, 3, 7, 8, 4, 10, 9] (by decide) rfl
end Go.Proofs.Ytkmemlnkijinlaa.eng

/- PlA -/
namespace Go.Proofs.Ytkmemlnkijinlaa.eng
open Go.RowKit kit mix classL rexL placesL
theorem build_shpA (e : Bool) (b b' : Option Addr) (m m' k k' : Nat) (w : World) : (Instr.build 104 #[(0, .bool e), (1, .slice b m k), (2, .slice b' m' k')]).run Try.prog w = .ok (.agg #[.bool e, .slice b m k, .slice b' m' k']) w := by
  go_simp
set_option maxHeartbeats 32000000 in
set_option maxRecDepth 100000 in
theorem node_alt {M : Nat} (IH : NodeAt M) (a b1 : Re) (ha : a.size ≤ M) (hb1 : b1.size ≤ M) (g : Nat) (vf ve : Value) (rule : Int) (p : PS) (x : MIx) (v : Value) (w : World) (B : Base) (hp : PSOk p) (hx : x.vs.length = p.follow.length) (hn : p.classes.length + (a.size + b1.size + 1) ≤ 100000) (hr64 : kit.okI64 rule) (hv : RexR (OldB B) B.w v (emb (.alt a b1))) (hm : Mem B (mkL g vf ve rule x p) w) :
    Calls Try.prog 40 #[.pointer (some ⟨g, 0, none⟩), v] w (MeetsB (nodeSp g vf ve rule (nodeF rule (.alt a b1) p)) B) := by
  obtain ⟨vk, rfl, _, hks⟩ := hv
  obtain ⟨bk, ck, rfl, h1, h2, h3⟩ := hks
  obtain ⟨b, off, rfl, hF, hrd⟩ := h3 (by show 0 < 2; decide)
  obtain ⟨kb, kc, hr, hkid1⟩ := rkid_at (k := 0) hrd (by show 0 < 2; decide)
  obtain ⟨kb2, kc2, hr2, hkid2⟩ := rkid_at (k := 1) hrd (by show 1 < 2; decide)
  have hat1 := fun (L : List Own) (j : Nat) (v : Value) hj => at_oldB (L := L) hF hr j v hj
  have hat2 := fun (L : List Own) (j : Nat) (v : Value) hj => at_oldB (L := L) hF hr2 j v hj
  clear h3 hrd hr hr2
  obtain ⟨hp1, hp2, hp3, hp4, hp5⟩ := node_ok rule a p hp
  obtain ⟨kp1, kp2, kp3, kp4, kp5⟩ := node_ok rule b1 _ hp1
  have hI1 := fun w B hv hm => IH a ha g vf ve rule p x (rexV (emb a).kind (emb a).cls (.slice kb (emb a).kids.length kc)) w B hp hx (by omega) hr64 hv hm
  have hI2 := fun x1 hx1 w B hv hm => IH b1 hb1 g vf ve rule (nodeF rule a p).2 x1 (rexV (emb b1).kind (emb b1).cls (.slice kb2 (emb b1).kids.length kc2)) w B hp1 hx1 (by omega) hr64 hv hm
  rw [show nodeF rule (.alt a b1) p = (⟨(nodeF rule a p).1.empty || (nodeF rule b1 (nodeF rule a p).2).1.empty, uni (nodeF rule a p).1.first (nodeF rule b1 (nodeF rule a p).2).1.first, uni (nodeF rule a p).1.last (nodeF rule b1 (nodeF rule a p).2).1.last⟩, (nodeF rule b1 (nodeF rule a p).2).2) from rfl]
  generalize nodeF rule b1 (nodeF rule a p).2 = R2 at *
  generalize nodeF rule a p = R1 at *
  obtain ⟨⟨e1, first1, last1⟩, p1⟩ := R1
  obtain ⟨⟨e2, first2, last2⟩, p2⟩ := R2
  dsimp only at hp1 hp2 hp3 hp4 hp5 kp1 kp2 kp3 kp4 kp5 hI2 ⊢
  unfold mkL at hm
  refine enterB hm (args := [.pointer (some ⟨g, 0, none⟩), rexV 5 C4.zero (.slice (some ⟨b, off, none⟩) 2 ck)]) (n := 176) Try.func40 rfl rfl rfl ?_
  clear hm
  refine T_seq (T_region (TL_box rfl rfl rfl fun g3 => TL_new rfl fun g4 => ?_))
  conv => arg 8; simp only [zA, zB, zC, zD, zE, zF, zG, zH, zI, rowS, ret, id_eq]
  repeat (first
    | refine QV QP ?_ | refine QZ ?_ | refine qcT rfl ?_ | refine qcF rfl ?_ | refine qs rfl rfl rfl rfl rfl rfl ?_
    | ((try refine qg rfl rfl rfl ?_); first | refine QV QP ?_ | refine QV (rr_load1 (v := .int .i64 5) TyC.ty rfl (at_blk (i := 6) rfl rfl)) ?_ | refine QV QL ?_ | refine QV QA ?_ | refine QV (rr_nilc rfl) ?_ | refine QV QeT ?_ | refine QV QeF ?_))
  (repeat refine T_seq ?_)
  refine T_midq (ι := MIx × Value × Value × Value × Value × Nat × Nat) (fun y => y.1.vs.length = p2.follow.length) (fun y => [(0, .pointer (some ⟨g, 0, none⟩)), (4, .pointer (some ⟨g4, 0, none⟩)), (7, .pointer (some ⟨y.2.2.2.2.2.1, 0, none⟩)), (8, .pointer (some ⟨y.2.2.2.2.2.2, 0, none⟩))])
    (fun y => mkL g vf ve rule y.1 p2 ++ [intR y.2.1 first1, intR y.2.2.1 last1, intR y.2.2.2.1 first2, intR y.2.2.2.2.1 last2, blkO g4 #[.bool false, .slice none 0 0, .slice none 0 0] 104, blkO y.2.2.2.2.2.1 #[.bool e1, y.2.1, y.2.2.1] 104, blkO y.2.2.2.2.2.2 #[.bool e2, y.2.2.2.1, y.2.2.2.2.1] 104]) ?_ ?_
  · refine T_ord ([blkO g3 (rexC 5 C4.zero (.slice (some ⟨b, off, none⟩) 2 ck)).toArray 63]) (.calm 0 (.calm 1 (.calm 2 (.calm 3 (.calm 4 (.calm 6 (.calm 7 (.calm 8 (.calm 9 (.calm 10 (.three 5 (.three 11 (.two 12 (.one 13 (.one 14 (.one 15 (.done)))) 13 (.one 12 (.one 14 (.one 15 (.done))))) 12 (.two 11 (.one 13 (.one 14 (.one 15 (.done)))) 13 (.one 11 (.one 14 (.one 15 (.done))))) 13 (.two 11 (.one 12 (.one 14 (.one 15 (.done)))) 12 (.one 11 (.one 14 (.one 15 (.done)))))) 12 (.two 5 (.two 11 (.one 13 (.one 14 (.one 15 (.done)))) 13 (.one 11 (.one 14 (.one 15 (.done))))) 13 (.one 5 (.one 11 (.one 14 (.one 15 (.done)))))) 13 (.two 5 (.two 11 (.one 12 (.one 14 (.one 15 (.done)))) 12 (.one 11 (.one 14 (.one 15 (.done))))) 12 (.one 5 (.one 11 (.one 14 (.one 15 (.done))))))))))))))))) (sub_pick [6] (by decide) rfl) (by kernel_rfl) (by kernel_rfl) (by intro c a d v w h; cases d <;> exact h) ?_
    repeat (first
      | ((first | refine TW_plain rfl rfl ?_ | refine TW_gmet rfl rfl rfl rfl ?_); first | refine QW QP ?_ | refine QW (rr_load1 (v := .slice (some ⟨b, off, none⟩) 2 ck) TyC.ty rfl (at_blk (i := 0) rfl rfl)) ?_ | refine QW (rr_idxc (j := 0) Und.eq TyC.ty rfl rfl (by decide)) ?_ | refine QW (rr_idxc (j := 1) Und.eq TyC.ty rfl rfl (by decide)) ?_ | refine QW (rr_loadN TyC.ty rfl rfl (hat1 _)) ?_ | refine QW (rr_loadN TyC.ty rfl rfl (hat2 _)) ?_ | refine QW QL ?_ | refine QW QA ?_ | refine QW (rr_nilc rfl) ?_ | refine QW QeT ?_ | refine QW QeF ?_)
      | refine TW_skip rfl rfl rfl rfl rfl rfl rfl ?_ | refine TW_done ?_)
    refine TW_three rfl rfl rfl ?_ ?_ ?_
    · refine TL_callB [0, 1, 2, 3, 4, 5] [6, 7] (by decide) rfl rfl (he2 EntersC.en rfl rfl rfl) (fun w hm hb => hI1 w _ (rex_on (hm.pick [0, 1, 2, 3, 4, 5] (by decide) rfl) hkid1) hb) rfl rfl rfl ?_
      rintro ⟨⟨vc1, vr1, vfol1, vl1, vs1, F1⟩, va1, vb1⟩ hx1
      have hx1 : vs1.length = p1.follow.length := hx1
      conv => arg 8; simp only [zA, zB, zC, zD, zE, zF, zG, zH, zI, rowS, ret, id_eq, nodeSp, mkL]
      conv => arg 7; simp only [nodeSp]
      refine TW_on (sub_pick [0] (by decide) rfl) ?_
      refine TW_three rfl rfl rfl ?_ ?_ ?_
      · refine TL_callB [2, 3, 4, 5, 6, 7] [0, 1, 8, 9] (by decide) rfl rfl (he2 EntersC.en rfl rfl rfl) (fun w hm hb => hI2 ⟨vc1, vr1, vfol1, vl1, vs1, F1⟩ hx1 w _ (rex_on (hm.pick [2, 3, 4, 5, 6, 7] (by decide) rfl) hkid2) hb) rfl rfl rfl ?_
        rintro ⟨⟨vc2, vr2, vfol2, vl2, vs2, F2⟩, va2, vb2⟩ hx2
        have hx2 : vs2.length = p2.follow.length := hx2
        conv => arg 8; simp only [zA, zB, zC, zD, zE, zF, zG, zH, zI, rowS, ret, id_eq, nodeSp, mkL]
        conv => arg 7; simp only [nodeSp]
        refine TW_on (sub_pick [0] (by decide) rfl) ?_
        refine TW_two rfl rfl ?_ ?_
        · refine TL_new rfl fun g7 => (TW_on (sub_pick [0] (by decide) rfl) ?_)
          refine TW_one rfl (TL_new rfl fun g8 => (TW_on (sub_pick [0] (by decide) rfl) ?_))
          refine TW_one rfl (TL_slv (i := 2) rfl fun _ qa1 => TL_slv (i := 3) rfl fun _ qb1 => TL_storeB (i := 12) (cs' := #[.bool e1, va1, vb1]) rfl rfl rfl rfl (by simp only [List.all_cons, List.all_nil, qa1, qb1]; rfl) rfl (TW_on (sub_pick [0] (by decide) rfl) ?_))
          repeat (first
            | ((first | refine TW_plain rfl rfl ?_ | refine TW_gmet rfl rfl rfl rfl ?_); first | refine QW QP ?_ | refine QW QL ?_ | refine QW QA ?_ | refine QW (rr_nilc rfl) ?_ | refine QW QeT ?_ | refine QW QeF ?_)
            | refine TW_skip rfl rfl rfl rfl rfl rfl rfl ?_ | refine TW_done ?_)
          refine TW_one rfl (TL_slv (i := 10) rfl fun _ qa2 => TL_slv (i := 11) rfl fun _ qb2 => TL_storeB (i := 13) (cs' := #[.bool e2, va2, vb2]) rfl rfl rfl rfl (by simp only [List.all_cons, List.all_nil, qa2, qb2]; rfl) rfl (TW_on (sub_pick [0] (by decide) rfl) ?_))
          repeat (first
            | ((first | refine TW_plain rfl rfl ?_ | refine TW_gmet rfl rfl rfl rfl ?_); first | refine QW QP ?_ | refine QW QL ?_ | refine QW QA ?_ | refine QW (rr_nilc rfl) ?_ | refine QW QeT ?_ | refine QW QeF ?_)
            | refine TW_skip rfl rfl rfl rfl rfl rfl rfl ?_ | refine TW_done ?_)
          refine E_pick [4, 5, 6, 7, 8, 9, 2, 3, 10, 11, 1, 12, 13] (by decide) rfl ?_
          exact E_mid (⟨vc2, vr2, vfol2, vl2, vs2, F2⟩, va1, vb1, va2, vb2, g7, g8) hx2 (by repeat' (first | exact True.intro | refine And.intro rfl ?_)) rfl
        · refine TL_new rfl fun g8 => (TW_on (sub_pick [0] (by decide) rfl) ?_)
          refine TW_one rfl (TL_new rfl fun g7 => (TW_on (sub_pick [0] (by decide) rfl) ?_))
          refine TW_one rfl (TL_slv (i := 2) rfl fun _ qa1 => TL_slv (i := 3) rfl fun _ qb1 => TL_storeB (i := 13) (cs' := #[.bool e1, va1, vb1]) rfl rfl rfl rfl (by simp only [List.all_cons, List.all_nil, qa1, qb1]; rfl) rfl (TW_on (sub_pick [0] (by decide) rfl) ?_))
          repeat (first
            | ((first | refine TW_plain rfl rfl ?_ | refine TW_gmet rfl rfl rfl rfl ?_); first | refine QW QP ?_ | refine QW QL ?_ | refine QW QA ?_ | refine QW (rr_nilc rfl) ?_ | refine QW QeT ?_ | refine QW QeF ?_)
            | refine TW_skip rfl rfl rfl rfl rfl rfl rfl ?_ | refine TW_done ?_)
          refine TW_one rfl (TL_slv (i := 10) rfl fun _ qa2 => TL_slv (i := 11) rfl fun _ qb2 => TL_storeB (i := 12) (cs' := #[.bool e2, va2, vb2]) rfl rfl rfl rfl (by simp only [List.all_cons, List.all_nil, qa2, qb2]; rfl) rfl (TW_on (sub_pick [0] (by decide) rfl) ?_))
          repeat (first
            | ((first | refine TW_plain rfl rfl ?_ | refine TW_gmet rfl rfl rfl rfl ?_); first | refine QW QP ?_ | refine QW QL ?_ | refine QW QA ?_ | refine QW (rr_nilc rfl) ?_ | refine QW QeT ?_ | refine QW QeF ?_)
            | refine TW_skip rfl rfl rfl rfl rfl rfl rfl ?_ | refine TW_done ?_)
          refine E_pick [4, 5, 6, 7, 8, 9, 2, 3, 10, 11, 1, 13, 12] (by decide) rfl ?_
          exact E_mid (⟨vc2, vr2, vfol2, vl2, vs2, F2⟩, va1, vb1, va2, vb2, g7, g8) hx2 (by repeat' (first | exact True.intro | refine And.intro rfl ?_)) rfl
      · refine TL_new rfl fun g7 => (TW_on (sub_pick [0] (by decide) rfl) ?_)
        refine TW_two rfl rfl ?_ ?_
        · refine TL_callB [2, 3, 4, 5, 6, 7] [0, 1, 8, 9, 10] (by decide) rfl rfl (he2 EntersC.en rfl rfl rfl) (fun w hm hb => hI2 ⟨vc1, vr1, vfol1, vl1, vs1, F1⟩ hx1 w _ (rex_on (hm.pick [2, 3, 4, 5, 6, 7] (by decide) rfl) hkid2) hb) rfl rfl rfl ?_
          rintro ⟨⟨vc2, vr2, vfol2, vl2, vs2, F2⟩, va2, vb2⟩ hx2
          have hx2 : vs2.length = p2.follow.length := hx2
          conv => arg 8; simp only [zA, zB, zC, zD, zE, zF, zG, zH, zI, rowS, ret, id_eq, nodeSp, mkL]
          conv => arg 7; simp only [nodeSp]
          refine TW_on (sub_pick [0] (by decide) rfl) ?_
          refine TW_one rfl (TL_new rfl fun g8 => (TW_on (sub_pick [0] (by decide) rfl) ?_))
          refine TW_one rfl (TL_slv (i := 2) rfl fun _ qa1 => TL_slv (i := 3) rfl fun _ qb1 => TL_storeB (i := 4) (cs' := #[.bool e1, va1, vb1]) rfl rfl rfl rfl (by simp only [List.all_cons, List.all_nil, qa1, qb1]; rfl) rfl (TW_on (sub_pick [0] (by decide) rfl) ?_))
          repeat (first
            | ((first | refine TW_plain rfl rfl ?_ | refine TW_gmet rfl rfl rfl rfl ?_); first | refine QW QP ?_ | refine QW QL ?_ | refine QW QA ?_ | refine QW (rr_nilc rfl) ?_ | refine QW QeT ?_ | refine QW QeF ?_)
            | refine TW_skip rfl rfl rfl rfl rfl rfl rfl ?_ | refine TW_done ?_)
          refine TW_one rfl (TL_slv (i := 11) rfl fun _ qa2 => TL_slv (i := 12) rfl fun _ qb2 => TL_storeB (i := 13) (cs' := #[.bool e2, va2, vb2]) rfl rfl rfl rfl (by simp only [List.all_cons, List.all_nil, qa2, qb2]; rfl) rfl (TW_on (sub_pick [0] (by decide) rfl) ?_))
          repeat (first
            | ((first | refine TW_plain rfl rfl ?_ | refine TW_gmet rfl rfl rfl rfl ?_); first | refine QW QP ?_ | refine QW QL ?_ | refine QW QA ?_ | refine QW (rr_nilc rfl) ?_ | refine QW QeT ?_ | refine QW QeF ?_)
            | refine TW_skip rfl rfl rfl rfl rfl rfl rfl ?_ | refine TW_done ?_)
          refine E_pick [5, 6, 7, 8, 9, 10, 2, 3, 11, 12, 1, 4, 13] (by decide) rfl ?_
          exact E_mid (⟨vc2, vr2, vfol2, vl2, vs2, F2⟩, va1, vb1, va2, vb2, g7, g8) hx2 (by repeat' (first | exact True.intro | refine And.intro rfl ?_)) rfl
        · refine TL_new rfl fun g8 => (TW_on (sub_pick [0] (by decide) rfl) ?_)
          refine TW_one rfl (TL_callB [2, 3, 4, 5, 6, 7] [0, 1, 8, 9, 10, 11] (by decide) rfl rfl (he2 EntersC.en rfl rfl rfl) (fun w hm hb => hI2 ⟨vc1, vr1, vfol1, vl1, vs1, F1⟩ hx1 w _ (rex_on (hm.pick [2, 3, 4, 5, 6, 7] (by decide) rfl) hkid2) hb) rfl rfl rfl ?_)
          rintro ⟨⟨vc2, vr2, vfol2, vl2, vs2, F2⟩, va2, vb2⟩ hx2
          have hx2 : vs2.length = p2.follow.length := hx2
          conv => arg 8; simp only [zA, zB, zC, zD, zE, zF, zG, zH, zI, rowS, ret, id_eq, nodeSp, mkL]
          conv => arg 7; simp only [nodeSp]
          refine TW_on (sub_pick [0] (by decide) rfl) ?_
          refine TW_one rfl (TL_slv (i := 2) rfl fun _ qa1 => TL_slv (i := 3) rfl fun _ qb1 => TL_storeB (i := 4) (cs' := #[.bool e1, va1, vb1]) rfl rfl rfl rfl (by simp only [List.all_cons, List.all_nil, qa1, qb1]; rfl) rfl (TW_on (sub_pick [0] (by decide) rfl) ?_))
          repeat (first
            | ((first | refine TW_plain rfl rfl ?_ | refine TW_gmet rfl rfl rfl rfl ?_); first | refine QW QP ?_ | refine QW QL ?_ | refine QW QA ?_ | refine QW (rr_nilc rfl) ?_ | refine QW QeT ?_ | refine QW QeF ?_)
            | refine TW_skip rfl rfl rfl rfl rfl rfl rfl ?_ | refine TW_done ?_)
          refine TW_one rfl (TL_slv (i := 12) rfl fun _ qa2 => TL_slv (i := 13) rfl fun _ qb2 => TL_storeB (i := 5) (cs' := #[.bool e2, va2, vb2]) rfl rfl rfl rfl (by simp only [List.all_cons, List.all_nil, qa2, qb2]; rfl) rfl (TW_on (sub_pick [0] (by decide) rfl) ?_))
          repeat (first
            | ((first | refine TW_plain rfl rfl ?_ | refine TW_gmet rfl rfl rfl rfl ?_); first | refine QW QP ?_ | refine QW QL ?_ | refine QW QA ?_ | refine QW (rr_nilc rfl) ?_ | refine QW QeT ?_ | refine QW QeF ?_)
            | refine TW_skip rfl rfl rfl rfl rfl rfl rfl ?_ | refine TW_done ?_)
          refine E_pick [6, 7, 8, 9, 10, 11, 2, 3, 12, 13, 1, 4, 5] (by decide) rfl ?_
          exact E_mid (⟨vc2, vr2, vfol2, vl2, vs2, F2⟩, va1, vb1, va2, vb2, g7, g8) hx2 (by repeat' (first | exact True.intro | refine And.intro rfl ?_)) rfl
      · refine TL_new rfl fun g8 => (TW_on (sub_pick [0] (by decide) rfl) ?_)
        refine TW_two rfl rfl ?_ ?_
        · refine TL_callB [2, 3, 4, 5, 6, 7] [0, 1, 8, 9, 10] (by decide) rfl rfl (he2 EntersC.en rfl rfl rfl) (fun w hm hb => hI2 ⟨vc1, vr1, vfol1, vl1, vs1, F1⟩ hx1 w _ (rex_on (hm.pick [2, 3, 4, 5, 6, 7] (by decide) rfl) hkid2) hb) rfl rfl rfl ?_
          rintro ⟨⟨vc2, vr2, vfol2, vl2, vs2, F2⟩, va2, vb2⟩ hx2
          have hx2 : vs2.length = p2.follow.length := hx2
          conv => arg 8; simp only [zA, zB, zC, zD, zE, zF, zG, zH, zI, rowS, ret, id_eq, nodeSp, mkL]
          conv => arg 7; simp only [nodeSp]
          refine TW_on (sub_pick [0] (by decide) rfl) ?_
          refine TW_one rfl (TL_new rfl fun g7 => (TW_on (sub_pick [0] (by decide) rfl) ?_))
          refine TW_one rfl (TL_slv (i := 2) rfl fun _ qa1 => TL_slv (i := 3) rfl fun _ qb1 => TL_storeB (i := 13) (cs' := #[.bool e1, va1, vb1]) rfl rfl rfl rfl (by simp only [List.all_cons, List.all_nil, qa1, qb1]; rfl) rfl (TW_on (sub_pick [0] (by decide) rfl) ?_))
          repeat (first
            | ((first | refine TW_plain rfl rfl ?_ | refine TW_gmet rfl rfl rfl rfl ?_); first | refine QW QP ?_ | refine QW QL ?_ | refine QW QA ?_ | refine QW (rr_nilc rfl) ?_ | refine QW QeT ?_ | refine QW QeF ?_)
            | refine TW_skip rfl rfl rfl rfl rfl rfl rfl ?_ | refine TW_done ?_)
          refine TW_one rfl (TL_slv (i := 11) rfl fun _ qa2 => TL_slv (i := 12) rfl fun _ qb2 => TL_storeB (i := 4) (cs' := #[.bool e2, va2, vb2]) rfl rfl rfl rfl (by simp only [List.all_cons, List.all_nil, qa2, qb2]; rfl) rfl (TW_on (sub_pick [0] (by decide) rfl) ?_))
          repeat (first
            | ((first | refine TW_plain rfl rfl ?_ | refine TW_gmet rfl rfl rfl rfl ?_); first | refine QW QP ?_ | refine QW QL ?_ | refine QW QA ?_ | refine QW (rr_nilc rfl) ?_ | refine QW QeT ?_ | refine QW QeF ?_)
            | refine TW_skip rfl rfl rfl rfl rfl rfl rfl ?_ | refine TW_done ?_)
          refine E_pick [5, 6, 7, 8, 9, 10, 2, 3, 11, 12, 1, 13, 4] (by decide) rfl ?_
          exact E_mid (⟨vc2, vr2, vfol2, vl2, vs2, F2⟩, va1, vb1, va2, vb2, g7, g8) hx2 (by repeat' (first | exact True.intro | refine And.intro rfl ?_)) rfl
        · refine TL_new rfl fun g7 => (TW_on (sub_pick [0] (by decide) rfl) ?_)
          refine TW_one rfl (TL_callB [2, 3, 4, 5, 6, 7] [0, 1, 8, 9, 10, 11] (by decide) rfl rfl (he2 EntersC.en rfl rfl rfl) (fun w hm hb => hI2 ⟨vc1, vr1, vfol1, vl1, vs1, F1⟩ hx1 w _ (rex_on (hm.pick [2, 3, 4, 5, 6, 7] (by decide) rfl) hkid2) hb) rfl rfl rfl ?_)
          rintro ⟨⟨vc2, vr2, vfol2, vl2, vs2, F2⟩, va2, vb2⟩ hx2
          have hx2 : vs2.length = p2.follow.length := hx2
          conv => arg 8; simp only [zA, zB, zC, zD, zE, zF, zG, zH, zI, rowS, ret, id_eq, nodeSp, mkL]
          conv => arg 7; simp only [nodeSp]
          refine TW_on (sub_pick [0] (by decide) rfl) ?_
          refine TW_one rfl (TL_slv (i := 2) rfl fun _ qa1 => TL_slv (i := 3) rfl fun _ qb1 => TL_storeB (i := 5) (cs' := #[.bool e1, va1, vb1]) rfl rfl rfl rfl (by simp only [List.all_cons, List.all_nil, qa1, qb1]; rfl) rfl (TW_on (sub_pick [0] (by decide) rfl) ?_))
          repeat (first
            | ((first | refine TW_plain rfl rfl ?_ | refine TW_gmet rfl rfl rfl rfl ?_); first | refine QW QP ?_ | refine QW QL ?_ | refine QW QA ?_ | refine QW (rr_nilc rfl) ?_ | refine QW QeT ?_ | refine QW QeF ?_)
            | refine TW_skip rfl rfl rfl rfl rfl rfl rfl ?_ | refine TW_done ?_)
          refine TW_one rfl (TL_slv (i := 12) rfl fun _ qa2 => TL_slv (i := 13) rfl fun _ qb2 => TL_storeB (i := 4) (cs' := #[.bool e2, va2, vb2]) rfl rfl rfl rfl (by simp only [List.all_cons, List.all_nil, qa2, qb2]; rfl) rfl (TW_on (sub_pick [0] (by decide) rfl) ?_))
          repeat (first
            | ((first | refine TW_plain rfl rfl ?_ | refine TW_gmet rfl rfl rfl rfl ?_); first | refine QW QP ?_ | refine QW QL ?_ | refine QW QA ?_ | refine QW (rr_nilc rfl) ?_ | refine QW QeT ?_ | refine QW QeF ?_)
            | refine TW_skip rfl rfl rfl rfl rfl rfl rfl ?_ | refine TW_done ?_)
          refine E_pick [6, 7, 8, 9, 10, 11, 2, 3, 12, 13, 1, 5, 4] (by decide) rfl ?_
          exact E_mid (⟨vc2, vr2, vfol2, vl2, vs2, F2⟩, va1, vb1, va2, vb2, g7, g8) hx2 (by repeat' (first | exact True.intro | refine And.intro rfl ?_)) rfl
    · refine TL_new rfl fun g7 => (TW_on (sub_pick [6] (by decide) rfl) ?_)
      refine TW_two rfl rfl ?_ ?_
      · refine TL_callB [0, 1, 2, 3, 4, 5] [6, 7, 8] (by decide) rfl rfl (he2 EntersC.en rfl rfl rfl) (fun w hm hb => hI1 w _ (rex_on (hm.pick [0, 1, 2, 3, 4, 5] (by decide) rfl) hkid1) hb) rfl rfl rfl ?_
        rintro ⟨⟨vc1, vr1, vfol1, vl1, vs1, F1⟩, va1, vb1⟩ hx1
        have hx1 : vs1.length = p1.follow.length := hx1
        conv => arg 8; simp only [zA, zB, zC, zD, zE, zF, zG, zH, zI, rowS, ret, id_eq, nodeSp, mkL]
        conv => arg 7; simp only [nodeSp]
        refine TW_on (sub_pick [0] (by decide) rfl) ?_
        refine TW_two rfl rfl ?_ ?_
        · refine TL_callB [3, 4, 5, 6, 7, 8] [0, 1, 2, 9, 10] (by decide) rfl rfl (he2 EntersC.en rfl rfl rfl) (fun w hm hb => hI2 ⟨vc1, vr1, vfol1, vl1, vs1, F1⟩ hx1 w _ (rex_on (hm.pick [3, 4, 5, 6, 7, 8] (by decide) rfl) hkid2) hb) rfl rfl rfl ?_
          rintro ⟨⟨vc2, vr2, vfol2, vl2, vs2, F2⟩, va2, vb2⟩ hx2
          have hx2 : vs2.length = p2.follow.length := hx2
          conv => arg 8; simp only [zA, zB, zC, zD, zE, zF, zG, zH, zI, rowS, ret, id_eq, nodeSp, mkL]
          conv => arg 7; simp only [nodeSp]
          refine TW_on (sub_pick [0] (by decide) rfl) ?_
          refine TW_one rfl (TL_new rfl fun g8 => (TW_on (sub_pick [0] (by decide) rfl) ?_))
          refine TW_one rfl (TL_slv (i := 3) rfl fun _ qa1 => TL_slv (i := 4) rfl fun _ qb1 => TL_storeB (i := 2) (cs' := #[.bool e1, va1, vb1]) rfl rfl rfl rfl (by simp only [List.all_cons, List.all_nil, qa1, qb1]; rfl) rfl (TW_on (sub_pick [0] (by decide) rfl) ?_))
          repeat (first
            | ((first | refine TW_plain rfl rfl ?_ | refine TW_gmet rfl rfl rfl rfl ?_); first | refine QW QP ?_ | refine QW QL ?_ | refine QW QA ?_ | refine QW (rr_nilc rfl) ?_ | refine QW QeT ?_ | refine QW QeF ?_)
            | refine TW_skip rfl rfl rfl rfl rfl rfl rfl ?_ | refine TW_done ?_)
          refine TW_one rfl (TL_slv (i := 11) rfl fun _ qa2 => TL_slv (i := 12) rfl fun _ qb2 => TL_storeB (i := 13) (cs' := #[.bool e2, va2, vb2]) rfl rfl rfl rfl (by simp only [List.all_cons, List.all_nil, qa2, qb2]; rfl) rfl (TW_on (sub_pick [0] (by decide) rfl) ?_))
          repeat (first
            | ((first | refine TW_plain rfl rfl ?_ | refine TW_gmet rfl rfl rfl rfl ?_); first | refine QW QP ?_ | refine QW QL ?_ | refine QW QA ?_ | refine QW (rr_nilc rfl) ?_ | refine QW QeT ?_ | refine QW QeF ?_)
            | refine TW_skip rfl rfl rfl rfl rfl rfl rfl ?_ | refine TW_done ?_)
          refine E_pick [5, 6, 7, 8, 9, 10, 3, 4, 11, 12, 1, 2, 13] (by decide) rfl ?_
          exact E_mid (⟨vc2, vr2, vfol2, vl2, vs2, F2⟩, va1, vb1, va2, vb2, g7, g8) hx2 (by repeat' (first | exact True.intro | refine And.intro rfl ?_)) rfl
        · refine TL_new rfl fun g8 => (TW_on (sub_pick [0] (by decide) rfl) ?_)
          refine TW_one rfl (TL_callB [3, 4, 5, 6, 7, 8] [0, 1, 2, 9, 10, 11] (by decide) rfl rfl (he2 EntersC.en rfl rfl rfl) (fun w hm hb => hI2 ⟨vc1, vr1, vfol1, vl1, vs1, F1⟩ hx1 w _ (rex_on (hm.pick [3, 4, 5, 6, 7, 8] (by decide) rfl) hkid2) hb) rfl rfl rfl ?_)
          rintro ⟨⟨vc2, vr2, vfol2, vl2, vs2, F2⟩, va2, vb2⟩ hx2
          have hx2 : vs2.length = p2.follow.length := hx2
          conv => arg 8; simp only [zA, zB, zC, zD, zE, zF, zG, zH, zI, rowS, ret, id_eq, nodeSp, mkL]
          conv => arg 7; simp only [nodeSp]
          refine TW_on (sub_pick [0] (by decide) rfl) ?_
          refine TW_one rfl (TL_slv (i := 3) rfl fun _ qa1 => TL_slv (i := 4) rfl fun _ qb1 => TL_storeB (i := 2) (cs' := #[.bool e1, va1, vb1]) rfl rfl rfl rfl (by simp only [List.all_cons, List.all_nil, qa1, qb1]; rfl) rfl (TW_on (sub_pick [0] (by decide) rfl) ?_))
          repeat (first
            | ((first | refine TW_plain rfl rfl ?_ | refine TW_gmet rfl rfl rfl rfl ?_); first | refine QW QP ?_ | refine QW QL ?_ | refine QW QA ?_ | refine QW (rr_nilc rfl) ?_ | refine QW QeT ?_ | refine QW QeF ?_)
            | refine TW_skip rfl rfl rfl rfl rfl rfl rfl ?_ | refine TW_done ?_)
          refine TW_one rfl (TL_slv (i := 12) rfl fun _ qa2 => TL_slv (i := 13) rfl fun _ qb2 => TL_storeB (i := 5) (cs' := #[.bool e2, va2, vb2]) rfl rfl rfl rfl (by simp only [List.all_cons, List.all_nil, qa2, qb2]; rfl) rfl (TW_on (sub_pick [0] (by decide) rfl) ?_))
          repeat (first
            | ((first | refine TW_plain rfl rfl ?_ | refine TW_gmet rfl rfl rfl rfl ?_); first | refine QW QP ?_ | refine QW QL ?_ | refine QW QA ?_ | refine QW (rr_nilc rfl) ?_ | refine QW QeT ?_ | refine QW QeF ?_)
            | refine TW_skip rfl rfl rfl rfl rfl rfl rfl ?_ | refine TW_done ?_)
          refine E_pick [6, 7, 8, 9, 10, 11, 3, 4, 12, 13, 1, 2, 5] (by decide) rfl ?_
          exact E_mid (⟨vc2, vr2, vfol2, vl2, vs2, F2⟩, va1, vb1, va2, vb2, g7, g8) hx2 (by repeat' (first | exact True.intro | refine And.intro rfl ?_)) rfl
      · refine TL_new rfl fun g8 => (TW_on (sub_pick [6] (by decide) rfl) ?_)
        refine TW_one rfl (TL_callB [0, 1, 2, 3, 4, 5] [6, 7, 8, 9] (by decide) rfl rfl (he2 EntersC.en rfl rfl rfl) (fun w hm hb => hI1 w _ (rex_on (hm.pick [0, 1, 2, 3, 4, 5] (by decide) rfl) hkid1) hb) rfl rfl rfl ?_)
        rintro ⟨⟨vc1, vr1, vfol1, vl1, vs1, F1⟩, va1, vb1⟩ hx1
        have hx1 : vs1.length = p1.follow.length := hx1
        conv => arg 8; simp only [zA, zB, zC, zD, zE, zF, zG, zH, zI, rowS, ret, id_eq, nodeSp, mkL]
        conv => arg 7; simp only [nodeSp]
        refine TW_on (sub_pick [0] (by decide) rfl) ?_
        refine TW_one rfl (TL_callB [4, 5, 6, 7, 8, 9] [0, 1, 2, 3, 10, 11] (by decide) rfl rfl (he2 EntersC.en rfl rfl rfl) (fun w hm hb => hI2 ⟨vc1, vr1, vfol1, vl1, vs1, F1⟩ hx1 w _ (rex_on (hm.pick [4, 5, 6, 7, 8, 9] (by decide) rfl) hkid2) hb) rfl rfl rfl ?_)
        rintro ⟨⟨vc2, vr2, vfol2, vl2, vs2, F2⟩, va2, vb2⟩ hx2
        have hx2 : vs2.length = p2.follow.length := hx2
        conv => arg 8; simp only [zA, zB, zC, zD, zE, zF, zG, zH, zI, rowS, ret, id_eq, nodeSp, mkL]
        conv => arg 7; simp only [nodeSp]
        refine TW_on (sub_pick [0] (by decide) rfl) ?_
        refine TW_one rfl (TL_slv (i := 4) rfl fun _ qa1 => TL_slv (i := 5) rfl fun _ qb1 => TL_storeB (i := 2) (cs' := #[.bool e1, va1, vb1]) rfl rfl rfl rfl (by simp only [List.all_cons, List.all_nil, qa1, qb1]; rfl) rfl (TW_on (sub_pick [0] (by decide) rfl) ?_))
        repeat (first
          | ((first | refine TW_plain rfl rfl ?_ | refine TW_gmet rfl rfl rfl rfl ?_); first | refine QW QP ?_ | refine QW QL ?_ | refine QW QA ?_ | refine QW (rr_nilc rfl) ?_ | refine QW QeT ?_ | refine QW QeF ?_)
          | refine TW_skip rfl rfl rfl rfl rfl rfl rfl ?_ | refine TW_done ?_)
        refine TW_one rfl (TL_slv (i := 12) rfl fun _ qa2 => TL_slv (i := 13) rfl fun _ qb2 => TL_storeB (i := 3) (cs' := #[.bool e2, va2, vb2]) rfl rfl rfl rfl (by simp only [List.all_cons, List.all_nil, qa2, qb2]; rfl) rfl (TW_on (sub_pick [0] (by decide) rfl) ?_))
        repeat (first
          | ((first | refine TW_plain rfl rfl ?_ | refine TW_gmet rfl rfl rfl rfl ?_); first | refine QW QP ?_ | refine QW QL ?_ | refine QW QA ?_ | refine QW (rr_nilc rfl) ?_ | refine QW QeT ?_ | refine QW QeF ?_)
          | refine TW_skip rfl rfl rfl rfl rfl rfl rfl ?_ | refine TW_done ?_)
        refine E_pick [6, 7, 8, 9, 10, 11, 4, 5, 12, 13, 1, 2, 3] (by decide) rfl ?_
        exact E_mid (⟨vc2, vr2, vfol2, vl2, vs2, F2⟩, va1, vb1, va2, vb2, g7, g8) hx2 (by repeat' (first | exact True.intro | refine And.intro rfl ?_)) rfl
    · refine TL_new rfl fun g8 => (TW_on (sub_pick [6] (by decide) rfl) ?_)
      refine TW_two rfl rfl ?_ ?_
      · refine TL_callB [0, 1, 2, 3, 4, 5] [6, 7, 8] (by decide) rfl rfl (he2 EntersC.en rfl rfl rfl) (fun w hm hb => hI1 w _ (rex_on (hm.pick [0, 1, 2, 3, 4, 5] (by decide) rfl) hkid1) hb) rfl rfl rfl ?_
        rintro ⟨⟨vc1, vr1, vfol1, vl1, vs1, F1⟩, va1, vb1⟩ hx1
        have hx1 : vs1.length = p1.follow.length := hx1
        conv => arg 8; simp only [zA, zB, zC, zD, zE, zF, zG, zH, zI, rowS, ret, id_eq, nodeSp, mkL]
        conv => arg 7; simp only [nodeSp]
        refine TW_on (sub_pick [0] (by decide) rfl) ?_
        refine TW_two rfl rfl ?_ ?_
        · refine TL_callB [3, 4, 5, 6, 7, 8] [0, 1, 2, 9, 10] (by decide) rfl rfl (he2 EntersC.en rfl rfl rfl) (fun w hm hb => hI2 ⟨vc1, vr1, vfol1, vl1, vs1, F1⟩ hx1 w _ (rex_on (hm.pick [3, 4, 5, 6, 7, 8] (by decide) rfl) hkid2) hb) rfl rfl rfl ?_
          rintro ⟨⟨vc2, vr2, vfol2, vl2, vs2, F2⟩, va2, vb2⟩ hx2
          have hx2 : vs2.length = p2.follow.length := hx2
          conv => arg 8; simp only [zA, zB, zC, zD, zE, zF, zG, zH, zI, rowS, ret, id_eq, nodeSp, mkL]
          conv => arg 7; simp only [nodeSp]
          refine TW_on (sub_pick [0] (by decide) rfl) ?_
          refine TW_one rfl (TL_new rfl fun g7 => (TW_on (sub_pick [0] (by decide) rfl) ?_))
          refine TW_one rfl (TL_slv (i := 3) rfl fun _ qa1 => TL_slv (i := 4) rfl fun _ qb1 => TL_storeB (i := 13) (cs' := #[.bool e1, va1, vb1]) rfl rfl rfl rfl (by simp only [List.all_cons, List.all_nil, qa1, qb1]; rfl) rfl (TW_on (sub_pick [0] (by decide) rfl) ?_))
          repeat (first
            | ((first | refine TW_plain rfl rfl ?_ | refine TW_gmet rfl rfl rfl rfl ?_); first | refine QW QP ?_ | refine QW QL ?_ | refine QW QA ?_ | refine QW (rr_nilc rfl) ?_ | refine QW QeT ?_ | refine QW QeF ?_)
            | refine TW_skip rfl rfl rfl rfl rfl rfl rfl ?_ | refine TW_done ?_)
          refine TW_one rfl (TL_slv (i := 11) rfl fun _ qa2 => TL_slv (i := 12) rfl fun _ qb2 => TL_storeB (i := 2) (cs' := #[.bool e2, va2, vb2]) rfl rfl rfl rfl (by simp only [List.all_cons, List.all_nil, qa2, qb2]; rfl) rfl (TW_on (sub_pick [0] (by decide) rfl) ?_))
          repeat (first
            | ((first | refine TW_plain rfl rfl ?_ | refine TW_gmet rfl rfl rfl rfl ?_); first | refine QW QP ?_ | refine QW QL ?_ | refine QW QA ?_ | refine QW (rr_nilc rfl) ?_ | refine QW QeT ?_ | refine QW QeF ?_)
            | refine TW_skip rfl rfl rfl rfl rfl rfl rfl ?_ | refine TW_done ?_)
          refine E_pick [5, 6, 7, 8, 9, 10, 3, 4, 11, 12, 1, 13, 2] (by decide) rfl ?_
          exact E_mid (⟨vc2, vr2, vfol2, vl2, vs2, F2⟩, va1, vb1, va2, vb2, g7, g8) hx2 (by repeat' (first | exact True.intro | refine And.intro rfl ?_)) rfl
        · refine TL_new rfl fun g7 => (TW_on (sub_pick [0] (by decide) rfl) ?_)
          refine TW_one rfl (TL_callB [3, 4, 5, 6, 7, 8] [0, 1, 2, 9, 10, 11] (by decide) rfl rfl (he2 EntersC.en rfl rfl rfl) (fun w hm hb => hI2 ⟨vc1, vr1, vfol1, vl1, vs1, F1⟩ hx1 w _ (rex_on (hm.pick [3, 4, 5, 6, 7, 8] (by decide) rfl) hkid2) hb) rfl rfl rfl ?_)
          rintro ⟨⟨vc2, vr2, vfol2, vl2, vs2, F2⟩, va2, vb2⟩ hx2
          have hx2 : vs2.length = p2.follow.length := hx2
          conv => arg 8; simp only [zA, zB, zC, zD, zE, zF, zG, zH, zI, rowS, ret, id_eq, nodeSp, mkL]
          conv => arg 7; simp only [nodeSp]
          refine TW_on (sub_pick [0] (by decide) rfl) ?_
          refine TW_one rfl (TL_slv (i := 3) rfl fun _ qa1 => TL_slv (i := 4) rfl fun _ qb1 => TL_storeB (i := 5) (cs' := #[.bool e1, va1, vb1]) rfl rfl rfl rfl (by simp only [List.all_cons, List.all_nil, qa1, qb1]; rfl) rfl (TW_on (sub_pick [0] (by decide) rfl) ?_))
          repeat (first
            | ((first | refine TW_plain rfl rfl ?_ | refine TW_gmet rfl rfl rfl rfl ?_); first | refine QW QP ?_ | refine QW QL ?_ | refine QW QA ?_ | refine QW (rr_nilc rfl) ?_ | refine QW QeT ?_ | refine QW QeF ?_)
            | refine TW_skip rfl rfl rfl rfl rfl rfl rfl ?_ | refine TW_done ?_)
          refine TW_one rfl (TL_slv (i := 12) rfl fun _ qa2 => TL_slv (i := 13) rfl fun _ qb2 => TL_storeB (i := 2) (cs' := #[.bool e2, va2, vb2]) rfl rfl rfl rfl (by simp only [List.all_cons, List.all_nil, qa2, qb2]; rfl) rfl (TW_on (sub_pick [0] (by decide) rfl) ?_))
          repeat (first
            | ((first | refine TW_plain rfl rfl ?_ | refine TW_gmet rfl rfl rfl rfl ?_); first | refine QW QP ?_ | refine QW QL ?_ | refine QW QA ?_ | refine QW (rr_nilc rfl) ?_ | refine QW QeT ?_ | refine QW QeF ?_)
            | refine TW_skip rfl rfl rfl rfl rfl rfl rfl ?_ | refine TW_done ?_)
          refine E_pick [6, 7, 8, 9, 10, 11, 3, 4, 12, 13, 1, 5, 2] (by decide) rfl ?_
          exact E_mid (⟨vc2, vr2, vfol2, vl2, vs2, F2⟩, va1, vb1, va2, vb2, g7, g8) hx2 (by repeat' (first | exact True.intro | refine And.intro rfl ?_)) rfl
      · refine TL_new rfl fun g7 => (TW_on (sub_pick [6] (by decide) rfl) ?_)
        refine TW_one rfl (TL_callB [0, 1, 2, 3, 4, 5] [6, 7, 8, 9] (by decide) rfl rfl (he2 EntersC.en rfl rfl rfl) (fun w hm hb => hI1 w _ (rex_on (hm.pick [0, 1, 2, 3, 4, 5] (by decide) rfl) hkid1) hb) rfl rfl rfl ?_)
        rintro ⟨⟨vc1, vr1, vfol1, vl1, vs1, F1⟩, va1, vb1⟩ hx1
        have hx1 : vs1.length = p1.follow.length := hx1
        conv => arg 8; simp only [zA, zB, zC, zD, zE, zF, zG, zH, zI, rowS, ret, id_eq, nodeSp, mkL]
        conv => arg 7; simp only [nodeSp]
        refine TW_on (sub_pick [0] (by decide) rfl) ?_
        refine TW_one rfl (TL_callB [4, 5, 6, 7, 8, 9] [0, 1, 2, 3, 10, 11] (by decide) rfl rfl (he2 EntersC.en rfl rfl rfl) (fun w hm hb => hI2 ⟨vc1, vr1, vfol1, vl1, vs1, F1⟩ hx1 w _ (rex_on (hm.pick [4, 5, 6, 7, 8, 9] (by decide) rfl) hkid2) hb) rfl rfl rfl ?_)
        rintro ⟨⟨vc2, vr2, vfol2, vl2, vs2, F2⟩, va2, vb2⟩ hx2
        have hx2 : vs2.length = p2.follow.length := hx2
        conv => arg 8; simp only [zA, zB, zC, zD, zE, zF, zG, zH, zI, rowS, ret, id_eq, nodeSp, mkL]
        conv => arg 7; simp only [nodeSp]
        refine TW_on (sub_pick [0] (by decide) rfl) ?_
        refine TW_one rfl (TL_slv (i := 4) rfl fun _ qa1 => TL_slv (i := 5) rfl fun _ qb1 => TL_storeB (i := 3) (cs' := #[.bool e1, va1, vb1]) rfl rfl rfl rfl (by simp only [List.all_cons, List.all_nil, qa1, qb1]; rfl) rfl (TW_on (sub_pick [0] (by decide) rfl) ?_))
        repeat (first
          | ((first | refine TW_plain rfl rfl ?_ | refine TW_gmet rfl rfl rfl rfl ?_); first | refine QW QP ?_ | refine QW QL ?_ | refine QW QA ?_ | refine QW (rr_nilc rfl) ?_ | refine QW QeT ?_ | refine QW QeF ?_)
          | refine TW_skip rfl rfl rfl rfl rfl rfl rfl ?_ | refine TW_done ?_)
        refine TW_one rfl (TL_slv (i := 12) rfl fun _ qa2 => TL_slv (i := 13) rfl fun _ qb2 => TL_storeB (i := 2) (cs' := #[.bool e2, va2, vb2]) rfl rfl rfl rfl (by simp only [List.all_cons, List.all_nil, qa2, qb2]; rfl) rfl (TW_on (sub_pick [0] (by decide) rfl) ?_))
        repeat (first
          | ((first | refine TW_plain rfl rfl ?_ | refine TW_gmet rfl rfl rfl rfl ?_); first | refine QW QP ?_ | refine QW QL ?_ | refine QW QA ?_ | refine QW (rr_nilc rfl) ?_ | refine QW QeT ?_ | refine QW QeF ?_)
          | refine TW_skip rfl rfl rfl rfl rfl rfl rfl ?_ | refine TW_done ?_)
        refine E_pick [6, 7, 8, 9, 10, 11, 4, 5, 12, 13, 1, 3, 2] (by decide) rfl ?_
        exact E_mid (⟨vc2, vr2, vfol2, vl2, vs2, F2⟩, va1, vb1, va2, vb2, g7, g8) hx2 (by repeat' (first | exact True.intro | refine And.intro rfl ?_)) rfl
  clear hI1 hI2 hat1 hat2
  rintro ⟨⟨vc, vr, vfol, vl, vs, F⟩, va1, vb1, va2, vb2, g7, g8⟩ hx2
  have hx2 : vs.length = p2.follow.length := hx2
  dsimp only
  conv => arg 7; simp only [zA, zB, zC, zD, zE, zF, zG, zH, zI, rowS, ret, id_eq, mkL]
  have hl1 := ris_len hp4
  have hl2 := ris_len hp5
  have hl3 := ris_len kp4
  have hl4 := ris_len kp5
  cases e1 with
  | true =>
    (repeat refine T_seq ?_)
    refine T_ord ([blkO g7 #[.bool true, va1, vb1] 104, blkO g8 #[.bool e2, va2, vb2] 104]) (.calm 0 (.calm 1 (.calm 2 (.calm 3 (.calm 4 (.calm 5 (.calm 6 (.calm 7 (.calm 8 (.calm 9 (.calm 11 (.calm 12 (.calm 13 (.calm 14 (.one 10 (.one 15 (.calm 16 (.one 17 (.done))))))))))))))))))) (sub_pick [11, 12] (by decide) rfl) (by kernel_rfl) (by kernel_rfl) (by intro c a d v w h; cases d <;> exact h) ?_
    repeat (first
      | ((first | refine TW_plain rfl rfl ?_ | refine TW_gmet rfl rfl rfl rfl ?_); first | refine QW QP ?_ | refine QW (rr_load1 TyC.ty rfl (at_blk (i := 0) rfl rfl)) ?_ | refine QW (rr_load1 TyC.ty rfl (at_blk (i := 1) rfl rfl)) ?_ | refine QW QL ?_ | refine QW QA ?_ | refine QW (rr_nilc rfl) ?_ | refine QW QeT ?_ | refine QW QeF ?_)
      | refine TW_skip rfl rfl rfl rfl rfl rfl rfl ?_ | refine TW_done ?_)
    refine TW_one rfl (TL_call (he2 EntersC.en rfl rfl rfl) (fun w' hm => union_calls va1 va2 first1 first2 w' (Sl.of_own (hm.get (i := 6) rfl)) (Sl.of_own (hm.get (i := 8) rfl)) (by omega) (by omega)) rfl rfl rfl ?_)
    intro vu _
    conv => arg 8; simp only [zA, zB, zC, zD, zE, zF, zG, zH, zI, rowS, ret, id_eq, intRS]
    refine TW_on (sub_pick [11, 12] (by decide) rfl) ?_
    repeat (first
      | ((first | refine TW_plain rfl rfl ?_ | refine TW_gmet rfl rfl rfl rfl ?_); first | refine QW QP ?_ | refine QW QL ?_ | refine QW QA ?_ | refine QW (rr_nilc rfl) ?_ | refine QW QeT ?_ | refine QW QeF ?_)
      | refine TW_skip rfl rfl rfl rfl rfl rfl rfl ?_ | refine TW_done ?_)
    refine TW_one rfl (TL_call (he2 EntersC.en rfl rfl rfl) (fun w' hm => union_calls vb1 vb2 last1 last2 w' (Sl.of_own (hm.get (i := 7) rfl)) (Sl.of_own (hm.get (i := 9) rfl)) (by omega) (by omega)) rfl rfl rfl ?_)
    intro vu2 _
    conv => arg 8; simp only [zA, zB, zC, zD, zE, zF, zG, zH, zI, rowS, ret, id_eq, intRS]
    refine TL_rowv (i := 13) rfl fun bu cu hu _ _ => ?_
    refine TL_rowv (i := 14) rfl fun bu2 cu2 hu2 _ _ => ?_
    subst hu hu2
    refine TW_on (sub_pick [11, 12] (by decide) rfl) ?_
    repeat (first
      | ((first | refine TW_plain rfl rfl ?_ | refine TW_gmet rfl rfl rfl rfl ?_); first | refine QW QP ?_ | refine QW (rr_build rfl (build_shpA _ _ _ _ _ _ _)) ?_ | refine QW QL ?_ | refine QW QA ?_ | refine QW (rr_nilc rfl) ?_ | refine QW QeT ?_ | refine QW QeF ?_)
      | refine TW_skip rfl rfl rfl rfl rfl rfl rfl ?_ | refine TW_done ?_)
    refine TW_one rfl (TL_storeB (i := 10) (cs' := #[.bool true, .slice bu (uni first1 first2).length cu, .slice bu2 (uni last1 last2).length cu2]) rfl rfl rfl rfl rfl rfl (TW_on (sub_pick [11, 12] (by decide) rfl) ?_))
    repeat (first
      | ((first | refine TW_plain rfl rfl ?_ | refine TW_gmet rfl rfl rfl rfl ?_); first | refine QW QP ?_ | refine QW QL ?_ | refine QW QA ?_ | refine QW (rr_nilc rfl) ?_ | refine QW QeT ?_ | refine QW QeF ?_)
      | refine TW_skip rfl rfl rfl rfl rfl rfl rfl ?_ | refine TW_done ?_)
    repeat (first
      | refine QV QP ?_ | refine QZ ?_ | refine qcT rfl ?_ | refine qcF rfl ?_ | refine qs rfl rfl rfl rfl rfl rfl ?_
      | ((try refine qg rfl rfl rfl ?_); first | refine QV QP ?_ | refine QV QL ?_ | refine QV QA ?_ | refine QV (rr_nilc rfl) ?_ | refine QV QeT ?_ | refine QV QeF ?_))
    refine E_retc1 (i := 10) rfl rfl rfl rfl fun w hm => ?_
    exact hm.meetsB (S := nodeSp g vf ve rule (⟨true || e2, uni first1 first2, uni last1 last2⟩, p2)) (⟨vc, vr, vfol, vl, vs, F⟩, .slice bu (uni first1 first2).length cu, .slice bu2 (uni last1 last2).length cu2) hx2 [0, 1, 2, 3, 4, 5, 13, 14] (by decide) rfl
  | false =>
    (repeat refine T_seq ?_)
    refine T_ord ([blkO g7 #[.bool false, va1, vb1] 104, blkO g8 #[.bool e2, va2, vb2] 104]) (.calm 0 (.calm 1 (.calm 2 (.calm 3 (.calm 4 (.calm 5 (.calm 6 (.calm 7 (.calm 8 (.calm 9 (.calm 11 (.calm 12 (.calm 13 (.calm 14 (.one 10 (.one 15 (.calm 16 (.one 17 (.done))))))))))))))))))) (sub_pick [11, 12] (by decide) rfl) (by kernel_rfl) (by kernel_rfl) (by intro c a d v w h; cases d <;> exact h) ?_
    repeat (first
      | ((first | refine TW_plain rfl rfl ?_ | refine TW_gmet rfl rfl rfl rfl ?_); first | refine QW QP ?_ | refine QW (rr_load1 TyC.ty rfl (at_blk (i := 0) rfl rfl)) ?_ | refine QW (rr_load1 TyC.ty rfl (at_blk (i := 1) rfl rfl)) ?_ | refine QW QL ?_ | refine QW QA ?_ | refine QW (rr_nilc rfl) ?_ | refine QW QeT ?_ | refine QW QeF ?_)
      | refine TW_skip rfl rfl rfl rfl rfl rfl rfl ?_ | refine TW_done ?_)
    refine TW_one rfl (TL_call (he2 EntersC.en rfl rfl rfl) (fun w' hm => union_calls va1 va2 first1 first2 w' (Sl.of_own (hm.get (i := 6) rfl)) (Sl.of_own (hm.get (i := 8) rfl)) (by omega) (by omega)) rfl rfl rfl ?_)
    intro vu _
    conv => arg 8; simp only [zA, zB, zC, zD, zE, zF, zG, zH, zI, rowS, ret, id_eq, intRS]
    refine TW_on (sub_pick [11, 12] (by decide) rfl) ?_
    repeat (first
      | ((first | refine TW_plain rfl rfl ?_ | refine TW_gmet rfl rfl rfl rfl ?_); first | refine QW QP ?_ | refine QW QL ?_ | refine QW QA ?_ | refine QW (rr_nilc rfl) ?_ | refine QW QeT ?_ | refine QW QeF ?_)
      | refine TW_skip rfl rfl rfl rfl rfl rfl rfl ?_ | refine TW_done ?_)
    refine TW_one rfl (TL_call (he2 EntersC.en rfl rfl rfl) (fun w' hm => union_calls vb1 vb2 last1 last2 w' (Sl.of_own (hm.get (i := 7) rfl)) (Sl.of_own (hm.get (i := 9) rfl)) (by omega) (by omega)) rfl rfl rfl ?_)
    intro vu2 _
    conv => arg 8; simp only [zA, zB, zC, zD, zE, zF, zG, zH, zI, rowS, ret, id_eq, intRS]
    refine TL_rowv (i := 13) rfl fun bu cu hu _ _ => ?_
    refine TL_rowv (i := 14) rfl fun bu2 cu2 hu2 _ _ => ?_
    subst hu hu2
    refine TW_on (sub_pick [11, 12] (by decide) rfl) ?_
    repeat (first
      | ((first | refine TW_plain rfl rfl ?_ | refine TW_gmet rfl rfl rfl rfl ?_); first | refine QW QP ?_ | refine QW (rr_build rfl (build_shpA _ _ _ _ _ _ _)) ?_ | refine QW QL ?_ | refine QW QA ?_ | refine QW (rr_nilc rfl) ?_ | refine QW QeT ?_ | refine QW QeF ?_)
      | refine TW_skip rfl rfl rfl rfl rfl rfl rfl ?_ | refine TW_done ?_)
    refine TW_one rfl (TL_storeB (i := 10) (cs' := #[.bool e2, .slice bu (uni first1 first2).length cu, .slice bu2 (uni last1 last2).length cu2]) rfl rfl rfl rfl rfl rfl (TW_on (sub_pick [11, 12] (by decide) rfl) ?_))
    repeat (first
      | ((first | refine TW_plain rfl rfl ?_ | refine TW_gmet rfl rfl rfl rfl ?_); first | refine QW QP ?_ | refine QW QL ?_ | refine QW QA ?_ | refine QW (rr_nilc rfl) ?_ | refine QW QeT ?_ | refine QW QeF ?_)
      | refine TW_skip rfl rfl rfl rfl rfl rfl rfl ?_ | refine TW_done ?_)
    repeat (first
      | refine QV QP ?_ | refine QZ ?_ | refine qcT rfl ?_ | refine qcF rfl ?_ | refine qs rfl rfl rfl rfl rfl rfl ?_
      | ((try refine qg rfl rfl rfl ?_); first | refine QV QP ?_ | refine QV QL ?_ | refine QV QA ?_ | refine QV (rr_nilc rfl) ?_ | refine QV QeT ?_ | refine QV QeF ?_))
    refine E_retc1 (i := 10) rfl rfl rfl rfl fun w hm => ?_
    exact hm.meetsB (S := nodeSp g vf ve rule (⟨false || e2, uni first1 first2, uni last1 last2⟩, p2)) (⟨vc, vr, vfol, vl, vs, F⟩, .slice bu (uni first1 first2).length cu, .slice bu2 (uni last1 last2).length cu2) hx2 [0, 1, 2, 3, 4, 5, 13, 14] (by decide) rfl
end Go.Proofs.Ytkmemlnkijinlaa.eng

/- PlC -/
namespace Go.Proofs.Ytkmemlnkijinlaa.eng
open Go.RowKit kit mix classL rexL placesL
set_option maxHeartbeats 32000000 in
set_option maxRecDepth 100000 in
theorem node_cat {M : Nat} (IH : NodeAt M) (a b1 : Re) (ha : a.size ≤ M) (hb1 : b1.size ≤ M) (g : Nat) (vf ve : Value) (rule : Int) (p : PS) (x : MIx) (v : Value) (w : World) (B : Base) (hp : PSOk p) (hx : x.vs.length = p.follow.length) (hn : p.classes.length + (a.size + b1.size + 1) ≤ 100000) (hr64 : kit.okI64 rule) (hv : RexR (OldB B) B.w v (emb (.cat a b1))) (hm : Mem B (mkL g vf ve rule x p) w) :
    Calls Try.prog 40 #[.pointer (some ⟨g, 0, none⟩), v] w (MeetsB (nodeSp g vf ve rule (nodeF rule (.cat a b1) p)) B) := by
  obtain ⟨vk, rfl, _, hks⟩ := hv
  obtain ⟨bk, ck, rfl, h1, h2, h3⟩ := hks
  obtain ⟨b, off, rfl, hF, hrd⟩ := h3 (by show 0 < 2; decide)
  obtain ⟨kb, kc, hr, hkid1⟩ := rkid_at (k := 0) hrd (by show 0 < 2; decide)
  obtain ⟨kb2, kc2, hr2, hkid2⟩ := rkid_at (k := 1) hrd (by show 1 < 2; decide)
  have hat1 := fun (L : List Own) (j : Nat) (v : Value) hj => at_oldB (L := L) hF hr j v hj
  have hat2 := fun (L : List Own) (j : Nat) (v : Value) hj => at_oldB (L := L) hF hr2 j v hj
  clear h3 hrd hr hr2
  obtain ⟨hp1, hp2, hp3, hp4, hp5⟩ := node_ok rule a p hp
  obtain ⟨kp1, kp2, kp3, kp4, kp5⟩ := node_ok rule b1 _ hp1
  have hI1 := fun w B hv hm => IH a ha g vf ve rule p x (rexV (emb a).kind (emb a).cls (.slice kb (emb a).kids.length kc)) w B hp hx (by omega) hr64 hv hm
  have hI2 := fun x1 hx1 w B hv hm => IH b1 hb1 g vf ve rule (nodeF rule a p).2 x1 (rexV (emb b1).kind (emb b1).cls (.slice kb2 (emb b1).kids.length kc2)) w B hp1 hx1 (by omega) hr64 hv hm
  rw [show nodeF rule (.cat a b1) p = (⟨(nodeF rule a p).1.empty && (nodeF rule b1 (nodeF rule a p).2).1.empty, if (nodeF rule a p).1.empty then uni (nodeF rule a p).1.first (nodeF rule b1 (nodeF rule a p).2).1.first else (nodeF rule a p).1.first, if (nodeF rule b1 (nodeF rule a p).2).1.empty then uni (nodeF rule a p).1.last (nodeF rule b1 (nodeF rule a p).2).1.last else (nodeF rule b1 (nodeF rule a p).2).1.last⟩, { (nodeF rule b1 (nodeF rule a p).2).2 with follow := behindF (nodeF rule b1 (nodeF rule a p).2).2.follow (nodeF rule a p).1.last (nodeF rule b1 (nodeF rule a p).2).1.first }) from rfl]
  generalize nodeF rule b1 (nodeF rule a p).2 = R2 at *
  generalize nodeF rule a p = R1 at *
  obtain ⟨⟨e1, first1, last1⟩, p1⟩ := R1
  obtain ⟨⟨e2, first2, last2⟩, p2⟩ := R2
  dsimp only at hp1 hp2 hp3 hp4 hp5 kp1 kp2 kp3 kp4 kp5 hI2 ⊢
  unfold mkL at hm
  refine enterB hm (args := [.pointer (some ⟨g, 0, none⟩), rexV 4 C4.zero (.slice (some ⟨b, off, none⟩) 2 ck)]) (n := 176) Try.func40 rfl rfl rfl ?_
  clear hm
  refine T_seq (T_region (TL_box rfl rfl rfl fun g3 => TL_new rfl fun g4 => ?_))
  conv => arg 8; simp only [zA, zB, zC, zD, zE, zF, zG, zH, zI, rowS, ret, id_eq]
  repeat (first
    | refine QV QP ?_ | refine QZ ?_ | refine qcT rfl ?_ | refine qcF rfl ?_ | refine qs rfl rfl rfl rfl rfl rfl ?_
    | ((try refine qg rfl rfl rfl ?_); first | refine QV QP ?_ | refine QV (rr_load1 (v := .int .i64 4) TyC.ty rfl (at_blk (i := 6) rfl rfl)) ?_ | refine QV QL ?_ | refine QV QA ?_ | refine QV (rr_nilc rfl) ?_ | refine QV QeT ?_ | refine QV QeF ?_))
  (repeat refine T_seq ?_)
  refine T_midq (ι := MIx × Value × Value × Value × Value × Nat × Nat) (fun y => y.1.vs.length = p2.follow.length) (fun y => [(0, .pointer (some ⟨g, 0, none⟩)), (4, .pointer (some ⟨g4, 0, none⟩)), (9, .pointer (some ⟨y.2.2.2.2.2.1, 0, none⟩)), (10, .pointer (some ⟨y.2.2.2.2.2.2, 0, none⟩))])
    (fun y => mkL g vf ve rule y.1 p2 ++ [intR y.2.1 first1, intR y.2.2.1 last1, intR y.2.2.2.1 first2, intR y.2.2.2.2.1 last2, blkO g4 #[.bool false, .slice none 0 0, .slice none 0 0] 104, blkO y.2.2.2.2.2.1 #[.bool e1, y.2.1, y.2.2.1] 104, blkO y.2.2.2.2.2.2 #[.bool e2, y.2.2.2.1, y.2.2.2.2.1] 104]) ?_ ?_
  · refine T_ord ([blkO g3 (rexC 4 C4.zero (.slice (some ⟨b, off, none⟩) 2 ck)).toArray 63]) (.calm 0 (.calm 1 (.calm 2 (.calm 3 (.calm 4 (.calm 6 (.calm 7 (.calm 8 (.calm 9 (.calm 10 (.three 5 (.three 11 (.two 12 (.one 13 (.one 14 (.one 15 (.done)))) 13 (.one 12 (.one 14 (.one 15 (.done))))) 12 (.two 11 (.one 13 (.one 14 (.one 15 (.done)))) 13 (.one 11 (.one 14 (.one 15 (.done))))) 13 (.two 11 (.one 12 (.one 14 (.one 15 (.done)))) 12 (.one 11 (.one 14 (.one 15 (.done)))))) 12 (.two 5 (.two 11 (.one 13 (.one 14 (.one 15 (.done)))) 13 (.one 11 (.one 14 (.one 15 (.done))))) 13 (.one 5 (.one 11 (.one 14 (.one 15 (.done)))))) 13 (.two 5 (.two 11 (.one 12 (.one 14 (.one 15 (.done)))) 12 (.one 11 (.one 14 (.one 15 (.done))))) 12 (.one 5 (.one 11 (.one 14 (.one 15 (.done))))))))))))))))) (sub_pick [6] (by decide) rfl) (by kernel_rfl) (by kernel_rfl) (by intro c a d v w h; cases d <;> exact h) ?_
    repeat (first
      | ((first | refine TW_plain rfl rfl ?_ | refine TW_gmet rfl rfl rfl rfl ?_); first | refine QW QP ?_ | refine QW (rr_load1 (v := .slice (some ⟨b, off, none⟩) 2 ck) TyC.ty rfl (at_blk (i := 0) rfl rfl)) ?_ | refine QW (rr_idxc (j := 0) Und.eq TyC.ty rfl rfl (by decide)) ?_ | refine QW (rr_idxc (j := 1) Und.eq TyC.ty rfl rfl (by decide)) ?_ | refine QW (rr_loadN TyC.ty rfl rfl (hat1 _)) ?_ | refine QW (rr_loadN TyC.ty rfl rfl (hat2 _)) ?_ | refine QW QL ?_ | refine QW QA ?_ | refine QW (rr_nilc rfl) ?_ | refine QW QeT ?_ | refine QW QeF ?_)
      | refine TW_skip rfl rfl rfl rfl rfl rfl rfl ?_ | refine TW_done ?_)
    refine TW_three rfl rfl rfl ?_ ?_ ?_
    · refine TL_callB [0, 1, 2, 3, 4, 5] [6, 7] (by decide) rfl rfl (he2 EntersC.en rfl rfl rfl) (fun w hm hb => hI1 w _ (rex_on (hm.pick [0, 1, 2, 3, 4, 5] (by decide) rfl) hkid1) hb) rfl rfl rfl ?_
      rintro ⟨⟨vc1, vr1, vfol1, vl1, vs1, F1⟩, va1, vb1⟩ hx1
      have hx1 : vs1.length = p1.follow.length := hx1
      conv => arg 8; simp only [zA, zB, zC, zD, zE, zF, zG, zH, zI, rowS, ret, id_eq, nodeSp, mkL]
      conv => arg 7; simp only [nodeSp]
      refine TW_on (sub_pick [0] (by decide) rfl) ?_
      refine TW_three rfl rfl rfl ?_ ?_ ?_
      · refine TL_callB [2, 3, 4, 5, 6, 7] [0, 1, 8, 9] (by decide) rfl rfl (he2 EntersC.en rfl rfl rfl) (fun w hm hb => hI2 ⟨vc1, vr1, vfol1, vl1, vs1, F1⟩ hx1 w _ (rex_on (hm.pick [2, 3, 4, 5, 6, 7] (by decide) rfl) hkid2) hb) rfl rfl rfl ?_
        rintro ⟨⟨vc2, vr2, vfol2, vl2, vs2, F2⟩, va2, vb2⟩ hx2
        have hx2 : vs2.length = p2.follow.length := hx2
        conv => arg 8; simp only [zA, zB, zC, zD, zE, zF, zG, zH, zI, rowS, ret, id_eq, nodeSp, mkL]
        conv => arg 7; simp only [nodeSp]
        refine TW_on (sub_pick [0] (by decide) rfl) ?_
        refine TW_two rfl rfl ?_ ?_
        · refine TL_new rfl fun g7 => (TW_on (sub_pick [0] (by decide) rfl) ?_)
          refine TW_one rfl (TL_new rfl fun g8 => (TW_on (sub_pick [0] (by decide) rfl) ?_))
          refine TW_one rfl (TL_slv (i := 2) rfl fun _ qa1 => TL_slv (i := 3) rfl fun _ qb1 => TL_storeB (i := 12) (cs' := #[.bool e1, va1, vb1]) rfl rfl rfl rfl (by simp only [List.all_cons, List.all_nil, qa1, qb1]; rfl) rfl (TW_on (sub_pick [0] (by decide) rfl) ?_))
          repeat (first
            | ((first | refine TW_plain rfl rfl ?_ | refine TW_gmet rfl rfl rfl rfl ?_); first | refine QW QP ?_ | refine QW QL ?_ | refine QW QA ?_ | refine QW (rr_nilc rfl) ?_ | refine QW QeT ?_ | refine QW QeF ?_)
            | refine TW_skip rfl rfl rfl rfl rfl rfl rfl ?_ | refine TW_done ?_)
          refine TW_one rfl (TL_slv (i := 10) rfl fun _ qa2 => TL_slv (i := 11) rfl fun _ qb2 => TL_storeB (i := 13) (cs' := #[.bool e2, va2, vb2]) rfl rfl rfl rfl (by simp only [List.all_cons, List.all_nil, qa2, qb2]; rfl) rfl (TW_on (sub_pick [0] (by decide) rfl) ?_))
          repeat (first
            | ((first | refine TW_plain rfl rfl ?_ | refine TW_gmet rfl rfl rfl rfl ?_); first | refine QW QP ?_ | refine QW QL ?_ | refine QW QA ?_ | refine QW (rr_nilc rfl) ?_ | refine QW QeT ?_ | refine QW QeF ?_)
            | refine TW_skip rfl rfl rfl rfl rfl rfl rfl ?_ | refine TW_done ?_)
          refine E_pick [4, 5, 6, 7, 8, 9, 2, 3, 10, 11, 1, 12, 13] (by decide) rfl ?_
          exact E_mid (⟨vc2, vr2, vfol2, vl2, vs2, F2⟩, va1, vb1, va2, vb2, g7, g8) hx2 (by repeat' (first | exact True.intro | refine And.intro rfl ?_)) rfl
        · refine TL_new rfl fun g8 => (TW_on (sub_pick [0] (by decide) rfl) ?_)
          refine TW_one rfl (TL_new rfl fun g7 => (TW_on (sub_pick [0] (by decide) rfl) ?_))
          refine TW_one rfl (TL_slv (i := 2) rfl fun _ qa1 => TL_slv (i := 3) rfl fun _ qb1 => TL_storeB (i := 13) (cs' := #[.bool e1, va1, vb1]) rfl rfl rfl rfl (by simp only [List.all_cons, List.all_nil, qa1, qb1]; rfl) rfl (TW_on (sub_pick [0] (by decide) rfl) ?_))
          repeat (first
            | ((first | refine TW_plain rfl rfl ?_ | refine TW_gmet rfl rfl rfl rfl ?_); first | refine QW QP ?_ | refine QW QL ?_ | refine QW QA ?_ | refine QW (rr_nilc rfl) ?_ | refine QW QeT ?_ | refine QW QeF ?_)
            | refine TW_skip rfl rfl rfl rfl rfl rfl rfl ?_ | refine TW_done ?_)
          refine TW_one rfl (TL_slv (i := 10) rfl fun _ qa2 => TL_slv (i := 11) rfl fun _ qb2 => TL_storeB (i := 12) (cs' := #[.bool e2, va2, vb2]) rfl rfl rfl rfl (by simp only [List.all_cons, List.all_nil, qa2, qb2]; rfl) rfl (TW_on (sub_pick [0] (by decide) rfl) ?_))
          repeat (first
            | ((first | refine TW_plain rfl rfl ?_ | refine TW_gmet rfl rfl rfl rfl ?_); first | refine QW QP ?_ | refine QW QL ?_ | refine QW QA ?_ | refine QW (rr_nilc rfl) ?_ | refine QW QeT ?_ | refine QW QeF ?_)
            | refine TW_skip rfl rfl rfl rfl rfl rfl rfl ?_ | refine TW_done ?_)
          refine E_pick [4, 5, 6, 7, 8, 9, 2, 3, 10, 11, 1, 13, 12] (by decide) rfl ?_
          exact E_mid (⟨vc2, vr2, vfol2, vl2, vs2, F2⟩, va1, vb1, va2, vb2, g7, g8) hx2 (by repeat' (first | exact True.intro | refine And.intro rfl ?_)) rfl
      · refine TL_new rfl fun g7 => (TW_on (sub_pick [0] (by decide) rfl) ?_)
        refine TW_two rfl rfl ?_ ?_
        · refine TL_callB [2, 3, 4, 5, 6, 7] [0, 1, 8, 9, 10] (by decide) rfl rfl (he2 EntersC.en rfl rfl rfl) (fun w hm hb => hI2 ⟨vc1, vr1, vfol1, vl1, vs1, F1⟩ hx1 w _ (rex_on (hm.pick [2, 3, 4, 5, 6, 7] (by decide) rfl) hkid2) hb) rfl rfl rfl ?_
          rintro ⟨⟨vc2, vr2, vfol2, vl2, vs2, F2⟩, va2, vb2⟩ hx2
          have hx2 : vs2.length = p2.follow.length := hx2
          conv => arg 8; simp only [zA, zB, zC, zD, zE, zF, zG, zH, zI, rowS, ret, id_eq, nodeSp, mkL]
          conv => arg 7; simp only [nodeSp]
          refine TW_on (sub_pick [0] (by decide) rfl) ?_
          refine TW_one rfl (TL_new rfl fun g8 => (TW_on (sub_pick [0] (by decide) rfl) ?_))
          refine TW_one rfl (TL_slv (i := 2) rfl fun _ qa1 => TL_slv (i := 3) rfl fun _ qb1 => TL_storeB (i := 4) (cs' := #[.bool e1, va1, vb1]) rfl rfl rfl rfl (by simp only [List.all_cons, List.all_nil, qa1, qb1]; rfl) rfl (TW_on (sub_pick [0] (by decide) rfl) ?_))
          repeat (first
            | ((first | refine TW_plain rfl rfl ?_ | refine TW_gmet rfl rfl rfl rfl ?_); first | refine QW QP ?_ | refine QW QL ?_ | refine QW QA ?_ | refine QW (rr_nilc rfl) ?_ | refine QW QeT ?_ | refine QW QeF ?_)
            | refine TW_skip rfl rfl rfl rfl rfl rfl rfl ?_ | refine TW_done ?_)
          refine TW_one rfl (TL_slv (i := 11) rfl fun _ qa2 => TL_slv (i := 12) rfl fun _ qb2 => TL_storeB (i := 13) (cs' := #[.bool e2, va2, vb2]) rfl rfl rfl rfl (by simp only [List.all_cons, List.all_nil, qa2, qb2]; rfl) rfl (TW_on (sub_pick [0] (by decide) rfl) ?_))
          repeat (first
            | ((first | refine TW_plain rfl rfl ?_ | refine TW_gmet rfl rfl rfl rfl ?_); first | refine QW QP ?_ | refine QW QL ?_ | refine QW QA ?_ | refine QW (rr_nilc rfl) ?_ | refine QW QeT ?_ | refine QW QeF ?_)
            | refine TW_skip rfl rfl rfl rfl rfl rfl rfl ?_ | refine TW_done ?_)
          refine E_pick [5, 6, 7, 8, 9, 10, 2, 3, 11, 12, 1, 4, 13] (by decide) rfl ?_
          exact E_mid (⟨vc2, vr2, vfol2, vl2, vs2, F2⟩, va1, vb1, va2, vb2, g7, g8) hx2 (by repeat' (first | exact True.intro | refine And.intro rfl ?_)) rfl
        · refine TL_new rfl fun g8 => (TW_on (sub_pick [0] (by decide) rfl) ?_)
          refine TW_one rfl (TL_callB [2, 3, 4, 5, 6, 7] [0, 1, 8, 9, 10, 11] (by decide) rfl rfl (he2 EntersC.en rfl rfl rfl) (fun w hm hb => hI2 ⟨vc1, vr1, vfol1, vl1, vs1, F1⟩ hx1 w _ (rex_on (hm.pick [2, 3, 4, 5, 6, 7] (by decide) rfl) hkid2) hb) rfl rfl rfl ?_)
          rintro ⟨⟨vc2, vr2, vfol2, vl2, vs2, F2⟩, va2, vb2⟩ hx2
          have hx2 : vs2.length = p2.follow.length := hx2
          conv => arg 8; simp only [zA, zB, zC, zD, zE, zF, zG, zH, zI, rowS, ret, id_eq, nodeSp, mkL]
          conv => arg 7; simp only [nodeSp]
          refine TW_on (sub_pick [0] (by decide) rfl) ?_
          refine TW_one rfl (TL_slv (i := 2) rfl fun _ qa1 => TL_slv (i := 3) rfl fun _ qb1 => TL_storeB (i := 4) (cs' := #[.bool e1, va1, vb1]) rfl rfl rfl rfl (by simp only [List.all_cons, List.all_nil, qa1, qb1]; rfl) rfl (TW_on (sub_pick [0] (by decide) rfl) ?_))
          repeat (first
            | ((first | refine TW_plain rfl rfl ?_ | refine TW_gmet rfl rfl rfl rfl ?_); first | refine QW QP ?_ | refine QW QL ?_ | refine QW QA ?_ | refine QW (rr_nilc rfl) ?_ | refine QW QeT ?_ | refine QW QeF ?_)
            | refine TW_skip rfl rfl rfl rfl rfl rfl rfl ?_ | refine TW_done ?_)
          refine TW_one rfl (TL_slv (i := 12) rfl fun _ qa2 => TL_slv (i := 13) rfl fun _ qb2 => TL_storeB (i := 5) (cs' := #[.bool e2, va2, vb2]) rfl rfl rfl rfl (by simp only [List.all_cons, List.all_nil, qa2, qb2]; rfl) rfl (TW_on (sub_pick [0] (by decide) rfl) ?_))
          repeat (first
            | ((first | refine TW_plain rfl rfl ?_ | refine TW_gmet rfl rfl rfl rfl ?_); first | refine QW QP ?_ | refine QW QL ?_ | refine QW QA ?_ | refine QW (rr_nilc rfl) ?_ | refine QW QeT ?_ | refine QW QeF ?_)
            | refine TW_skip rfl rfl rfl rfl rfl rfl rfl ?_ | refine TW_done ?_)
          refine E_pick [6, 7, 8, 9, 10, 11, 2, 3, 12, 13, 1, 4, 5] (by decide) rfl ?_
          exact E_mid (⟨vc2, vr2, vfol2, vl2, vs2, F2⟩, va1, vb1, va2, vb2, g7, g8) hx2 (by repeat' (first | exact True.intro | refine And.intro rfl ?_)) rfl
      · refine TL_new rfl fun g8 => (TW_on (sub_pick [0] (by decide) rfl) ?_)
        refine TW_two rfl rfl ?_ ?_
        · refine TL_callB [2, 3, 4, 5, 6, 7] [0, 1, 8, 9, 10] (by decide) rfl rfl (he2 EntersC.en rfl rfl rfl) (fun w hm hb => hI2 ⟨vc1, vr1, vfol1, vl1, vs1, F1⟩ hx1 w _ (rex_on (hm.pick [2, 3, 4, 5, 6, 7] (by decide) rfl) hkid2) hb) rfl rfl rfl ?_
          rintro ⟨⟨vc2, vr2, vfol2, vl2, vs2, F2⟩, va2, vb2⟩ hx2
          have hx2 : vs2.length = p2.follow.length := hx2
          conv => arg 8; simp only [zA, zB, zC, zD, zE, zF, zG, zH, zI, rowS, ret, id_eq, nodeSp, mkL]
          conv => arg 7; simp only [nodeSp]
          refine TW_on (sub_pick [0] (by decide) rfl) ?_
          refine TW_one rfl (TL_new rfl fun g7 => (TW_on (sub_pick [0] (by decide) rfl) ?_))
          refine TW_one rfl (TL_slv (i := 2) rfl fun _ qa1 => TL_slv (i := 3) rfl fun _ qb1 => TL_storeB (i := 13) (cs' := #[.bool e1, va1, vb1]) rfl rfl rfl rfl (by simp only [List.all_cons, List.all_nil, qa1, qb1]; rfl) rfl (TW_on (sub_pick [0] (by decide) rfl) ?_))
          repeat (first
            | ((first | refine TW_plain rfl rfl ?_ | refine TW_gmet rfl rfl rfl rfl ?_); first | refine QW QP ?_ | refine QW QL ?_ | refine QW QA ?_ | refine QW (rr_nilc rfl) ?_ | refine QW QeT ?_ | refine QW QeF ?_)
            | refine TW_skip rfl rfl rfl rfl rfl rfl rfl ?_ | refine TW_done ?_)
          refine TW_one rfl (TL_slv (i := 11) rfl fun _ qa2 => TL_slv (i := 12) rfl fun _ qb2 => TL_storeB (i := 4) (cs' := #[.bool e2, va2, vb2]) rfl rfl rfl rfl (by simp only [List.all_cons, List.all_nil, qa2, qb2]; rfl) rfl (TW_on (sub_pick [0] (by decide) rfl) ?_))
          repeat (first
            | ((first | refine TW_plain rfl rfl ?_ | refine TW_gmet rfl rfl rfl rfl ?_); first | refine QW QP ?_ | refine QW QL ?_ | refine QW QA ?_ | refine QW (rr_nilc rfl) ?_ | refine QW QeT ?_ | refine QW QeF ?_)
            | refine TW_skip rfl rfl rfl rfl rfl rfl rfl ?_ | refine TW_done ?_)
          refine E_pick [5, 6, 7, 8, 9, 10, 2, 3, 11, 12, 1, 13, 4] (by decide) rfl ?_
          exact E_mid (⟨vc2, vr2, vfol2, vl2, vs2, F2⟩, va1, vb1, va2, vb2, g7, g8) hx2 (by repeat' (first | exact True.intro | refine And.intro rfl ?_)) rfl
        · refine TL_new rfl fun g7 => (TW_on (sub_pick [0] (by decide) rfl) ?_)
          refine TW_one rfl (TL_callB [2, 3, 4, 5, 6, 7] [0, 1, 8, 9, 10, 11] (by decide) rfl rfl (he2 EntersC.en rfl rfl rfl) (fun w hm hb => hI2 ⟨vc1, vr1, vfol1, vl1, vs1, F1⟩ hx1 w _ (rex_on (hm.pick [2, 3, 4, 5, 6, 7] (by decide) rfl) hkid2) hb) rfl rfl rfl ?_)
          rintro ⟨⟨vc2, vr2, vfol2, vl2, vs2, F2⟩, va2, vb2⟩ hx2
          have hx2 : vs2.length = p2.follow.length := hx2
          conv => arg 8; simp only [zA, zB, zC, zD, zE, zF, zG, zH, zI, rowS, ret, id_eq, nodeSp, mkL]
          conv => arg 7; simp only [nodeSp]
          refine TW_on (sub_pick [0] (by decide) rfl) ?_
          refine TW_one rfl (TL_slv (i := 2) rfl fun _ qa1 => TL_slv (i := 3) rfl fun _ qb1 => TL_storeB (i := 5) (cs' := #[.bool e1, va1, vb1]) rfl rfl rfl rfl (by simp only [List.all_cons, List.all_nil, qa1, qb1]; rfl) rfl (TW_on (sub_pick [0] (by decide) rfl) ?_))
          repeat (first
            | ((first | refine TW_plain rfl rfl ?_ | refine TW_gmet rfl rfl rfl rfl ?_); first | refine QW QP ?_ | refine QW QL ?_ | refine QW QA ?_ | refine QW (rr_nilc rfl) ?_ | refine QW QeT ?_ | refine QW QeF ?_)
            | refine TW_skip rfl rfl rfl rfl rfl rfl rfl ?_ | refine TW_done ?_)
          refine TW_one rfl (TL_slv (i := 12) rfl fun _ qa2 => TL_slv (i := 13) rfl fun _ qb2 => TL_storeB (i := 4) (cs' := #[.bool e2, va2, vb2]) rfl rfl rfl rfl (by simp only [List.all_cons, List.all_nil, qa2, qb2]; rfl) rfl (TW_on (sub_pick [0] (by decide) rfl) ?_))
          repeat (first
            | ((first | refine TW_plain rfl rfl ?_ | refine TW_gmet rfl rfl rfl rfl ?_); first | refine QW QP ?_ | refine QW QL ?_ | refine QW QA ?_ | refine QW (rr_nilc rfl) ?_ | refine QW QeT ?_ | refine QW QeF ?_)
            | refine TW_skip rfl rfl rfl rfl rfl rfl rfl ?_ | refine TW_done ?_)
          refine E_pick [6, 7, 8, 9, 10, 11, 2, 3, 12, 13, 1, 5, 4] (by decide) rfl ?_
          exact E_mid (⟨vc2, vr2, vfol2, vl2, vs2, F2⟩, va1, vb1, va2, vb2, g7, g8) hx2 (by repeat' (first | exact True.intro | refine And.intro rfl ?_)) rfl
    · refine TL_new rfl fun g7 => (TW_on (sub_pick [6] (by decide) rfl) ?_)
      refine TW_two rfl rfl ?_ ?_
      · refine TL_callB [0, 1, 2, 3, 4, 5] [6, 7, 8] (by decide) rfl rfl (he2 EntersC.en rfl rfl rfl) (fun w hm hb => hI1 w _ (rex_on (hm.pick [0, 1, 2, 3, 4, 5] (by decide) rfl) hkid1) hb) rfl rfl rfl ?_
        rintro ⟨⟨vc1, vr1, vfol1, vl1, vs1, F1⟩, va1, vb1⟩ hx1
        have hx1 : vs1.length = p1.follow.length := hx1
        conv => arg 8; simp only [zA, zB, zC, zD, zE, zF, zG, zH, zI, rowS, ret, id_eq, nodeSp, mkL]
        conv => arg 7; simp only [nodeSp]
        refine TW_on (sub_pick [0] (by decide) rfl) ?_
        refine TW_two rfl rfl ?_ ?_
        · refine TL_callB [3, 4, 5, 6, 7, 8] [0, 1, 2, 9, 10] (by decide) rfl rfl (he2 EntersC.en rfl rfl rfl) (fun w hm hb => hI2 ⟨vc1, vr1, vfol1, vl1, vs1, F1⟩ hx1 w _ (rex_on (hm.pick [3, 4, 5, 6, 7, 8] (by decide) rfl) hkid2) hb) rfl rfl rfl ?_
          rintro ⟨⟨vc2, vr2, vfol2, vl2, vs2, F2⟩, va2, vb2⟩ hx2
          have hx2 : vs2.length = p2.follow.length := hx2
          conv => arg 8; simp only [zA, zB, zC, zD, zE, zF, zG, zH, zI, rowS, ret, id_eq, nodeSp, mkL]
          conv => arg 7; simp only [nodeSp]
          refine TW_on (sub_pick [0] (by decide) rfl) ?_
          refine TW_one rfl (TL_new rfl fun g8 => (TW_on (sub_pick [0] (by decide) rfl) ?_))
          refine TW_one rfl (TL_slv (i := 3) rfl fun _ qa1 => TL_slv (i := 4) rfl fun _ qb1 => TL_storeB (i := 2) (cs' := #[.bool e1, va1, vb1]) rfl rfl rfl rfl (by simp only [List.all_cons, List.all_nil, qa1, qb1]; rfl) rfl (TW_on (sub_pick [0] (by decide) rfl) ?_))
          repeat (first
            | ((first | refine TW_plain rfl rfl ?_ | refine TW_gmet rfl rfl rfl rfl ?_); first | refine QW QP ?_ | refine QW QL ?_ | refine QW QA ?_ | refine QW (rr_nilc rfl) ?_ | refine QW QeT ?_ | refine QW QeF ?_)
            | refine TW_skip rfl rfl rfl rfl rfl rfl rfl ?_ | refine TW_done ?_)
          refine TW_one rfl (TL_slv (i := 11) rfl fun _ qa2 => TL_slv (i := 12) rfl fun _ qb2 => TL_storeB (i := 13) (cs' := #[.bool e2, va2, vb2]) rfl rfl rfl rfl (by simp only [List.all_cons, List.all_nil, qa2, qb2]; rfl) rfl (TW_on (sub_pick [0] (by decide) rfl) ?_))
          repeat (first
            | ((first | refine TW_plain rfl rfl ?_ | refine TW_gmet rfl rfl rfl rfl ?_); first | refine QW QP ?_ | refine QW QL ?_ | refine QW QA ?_ | refine QW (rr_nilc rfl) ?_ | refine QW QeT ?_ | refine QW QeF ?_)
            | refine TW_skip rfl rfl rfl rfl rfl rfl rfl ?_ | refine TW_done ?_)
          refine E_pick [5, 6, 7, 8, 9, 10, 3, 4, 11, 12, 1, 2, 13] (by decide) rfl ?_
          exact E_mid (⟨vc2, vr2, vfol2, vl2, vs2, F2⟩, va1, vb1, va2, vb2, g7, g8) hx2 (by repeat' (first | exact True.intro | refine And.intro rfl ?_)) rfl
        · refine TL_new rfl fun g8 => (TW_on (sub_pick [0] (by decide) rfl) ?_)
          refine TW_one rfl (TL_callB [3, 4, 5, 6, 7, 8] [0, 1, 2, 9, 10, 11] (by decide) rfl rfl (he2 EntersC.en rfl rfl rfl) (fun w hm hb => hI2 ⟨vc1, vr1, vfol1, vl1, vs1, F1⟩ hx1 w _ (rex_on (hm.pick [3, 4, 5, 6, 7, 8] (by decide) rfl) hkid2) hb) rfl rfl rfl ?_)
          rintro ⟨⟨vc2, vr2, vfol2, vl2, vs2, F2⟩, va2, vb2⟩ hx2
          have hx2 : vs2.length = p2.follow.length := hx2
          conv => arg 8; simp only [zA, zB, zC, zD, zE, zF, zG, zH, zI, rowS, ret, id_eq, nodeSp, mkL]
          conv => arg 7; simp only [nodeSp]
          refine TW_on (sub_pick [0] (by decide) rfl) ?_
          refine TW_one rfl (TL_slv (i := 3) rfl fun _ qa1 => TL_slv (i := 4) rfl fun _ qb1 => TL_storeB (i := 2) (cs' := #[.bool e1, va1, vb1]) rfl rfl rfl rfl (by simp only [List.all_cons, List.all_nil, qa1, qb1]; rfl) rfl (TW_on (sub_pick [0] (by decide) rfl) ?_))
          repeat (first
            | ((first | refine TW_plain rfl rfl ?_ | refine TW_gmet rfl rfl rfl rfl ?_); first | refine QW QP ?_ | refine QW QL ?_ | refine QW QA ?_ | refine QW (rr_nilc rfl) ?_ | refine QW QeT ?_ | refine QW QeF ?_)
            | refine TW_skip rfl rfl rfl rfl rfl rfl rfl ?_ | refine TW_done ?_)
          refine TW_one rfl (TL_slv (i := 12) rfl fun _ qa2 => TL_slv (i := 13) rfl fun _ qb2 => TL_storeB (i := 5) (cs' := #[.bool e2, va2, vb2]) rfl rfl rfl rfl (by simp only [List.all_cons, List.all_nil, qa2, qb2]; rfl) rfl (TW_on (sub_pick [0] (by decide) rfl) ?_))
          repeat (first
            | ((first | refine TW_plain rfl rfl ?_ | refine TW_gmet rfl rfl rfl rfl ?_); first | refine QW QP ?_ | refine QW QL ?_ | refine QW QA ?_ | refine QW (rr_nilc rfl) ?_ | refine QW QeT ?_ | refine QW QeF ?_)
            | refine TW_skip rfl rfl rfl rfl rfl rfl rfl ?_ | refine TW_done ?_)
          refine E_pick [6, 7, 8, 9, 10, 11, 3, 4, 12, 13, 1, 2, 5] (by decide) rfl ?_
          exact E_mid (⟨vc2, vr2, vfol2, vl2, vs2, F2⟩, va1, vb1, va2, vb2, g7, g8) hx2 (by repeat' (first | exact True.intro | refine And.intro rfl ?_)) rfl
      · refine TL_new rfl fun g8 => (TW_on (sub_pick [6] (by decide) rfl) ?_)
        refine TW_one rfl (TL_callB [0, 1, 2, 3, 4, 5] [6, 7, 8, 9] (by decide) rfl rfl (he2 EntersC.en rfl rfl rfl) (fun w hm hb => hI1 w _ (rex_on (hm.pick [0, 1, 2, 3, 4, 5] (by decide) rfl) hkid1) hb) rfl rfl rfl ?_)
        rintro ⟨⟨vc1, vr1, vfol1, vl1, vs1, F1⟩, va1, vb1⟩ hx1
        have hx1 : vs1.length = p1.follow.length := hx1
        conv => arg 8; simp only [zA, zB, zC, zD, zE, zF, zG, zH, zI, rowS, ret, id_eq, nodeSp, mkL]
        conv => arg 7; simp only [nodeSp]
        refine TW_on (sub_pick [0] (by decide) rfl) ?_
        refine TW_one rfl (TL_callB [4, 5, 6, 7, 8, 9] [0, 1, 2, 3, 10, 11] (by decide) rfl rfl (he2 EntersC.en rfl rfl rfl) (fun w hm hb => hI2 ⟨vc1, vr1, vfol1, vl1, vs1, F1⟩ hx1 w _ (rex_on (hm.pick [4, 5, 6, 7, 8, 9] (by decide) rfl) hkid2) hb) rfl rfl rfl ?_)
        rintro ⟨⟨vc2, vr2, vfol2, vl2, vs2, F2⟩, va2, vb2⟩ hx2
        have hx2 : vs2.length = p2.follow.length := hx2
        conv => arg 8; simp only [zA, zB, zC, zD, zE, zF, zG, zH, zI, rowS, ret, id_eq, nodeSp, mkL]
        conv => arg 7; simp only [nodeSp]
        refine TW_on (sub_pick [0] (by decide) rfl) ?_
        refine TW_one rfl (TL_slv (i := 4) rfl fun _ qa1 => TL_slv (i := 5) rfl fun _ qb1 => TL_storeB (i := 2) (cs' := #[.bool e1, va1, vb1]) rfl rfl rfl rfl (by simp only [List.all_cons, List.all_nil, qa1, qb1]; rfl) rfl (TW_on (sub_pick [0] (by decide) rfl) ?_))
        repeat (first
          | ((first | refine TW_plain rfl rfl ?_ | refine TW_gmet rfl rfl rfl rfl ?_); first | refine QW QP ?_ | refine QW QL ?_ | refine QW QA ?_ | refine QW (rr_nilc rfl) ?_ | refine QW QeT ?_ | refine QW QeF ?_)
          | refine TW_skip rfl rfl rfl rfl rfl rfl rfl ?_ | refine TW_done ?_)
        refine TW_one rfl (TL_slv (i := 12) rfl fun _ qa2 => TL_slv (i := 13) rfl fun _ qb2 => TL_storeB (i := 3) (cs' := #[.bool e2, va2, vb2]) rfl rfl rfl rfl (by simp only [List.all_cons, List.all_nil, qa2, qb2]; rfl) rfl (TW_on (sub_pick [0] (by decide) rfl) ?_))
        repeat (first
          | ((first | refine TW_plain rfl rfl ?_ | refine TW_gmet rfl rfl rfl rfl ?_); first | refine QW QP ?_ | refine QW QL ?_ | refine QW QA ?_ | refine QW (rr_nilc rfl) ?_ | refine QW QeT ?_ | refine QW QeF ?_)
          | refine TW_skip rfl rfl rfl rfl rfl rfl rfl ?_ | refine TW_done ?_)
        refine E_pick [6, 7, 8, 9, 10, 11, 4, 5, 12, 13, 1, 2, 3] (by decide) rfl ?_
        exact E_mid (⟨vc2, vr2, vfol2, vl2, vs2, F2⟩, va1, vb1, va2, vb2, g7, g8) hx2 (by repeat' (first | exact True.intro | refine And.intro rfl ?_)) rfl
    · refine TL_new rfl fun g8 => (TW_on (sub_pick [6] (by decide) rfl) ?_)
      refine TW_two rfl rfl ?_ ?_
      · refine TL_callB [0, 1, 2, 3, 4, 5] [6, 7, 8] (by decide) rfl rfl (he2 EntersC.en rfl rfl rfl) (fun w hm hb => hI1 w _ (rex_on (hm.pick [0, 1, 2, 3, 4, 5] (by decide) rfl) hkid1) hb) rfl rfl rfl ?_
        rintro ⟨⟨vc1, vr1, vfol1, vl1, vs1, F1⟩, va1, vb1⟩ hx1
        have hx1 : vs1.length = p1.follow.length := hx1
        conv => arg 8; simp only [zA, zB, zC, zD, zE, zF, zG, zH, zI, rowS, ret, id_eq, nodeSp, mkL]
        conv => arg 7; simp only [nodeSp]
        refine TW_on (sub_pick [0] (by decide) rfl) ?_
        refine TW_two rfl rfl ?_ ?_
        · refine TL_callB [3, 4, 5, 6, 7, 8] [0, 1, 2, 9, 10] (by decide) rfl rfl (he2 EntersC.en rfl rfl rfl) (fun w hm hb => hI2 ⟨vc1, vr1, vfol1, vl1, vs1, F1⟩ hx1 w _ (rex_on (hm.pick [3, 4, 5, 6, 7, 8] (by decide) rfl) hkid2) hb) rfl rfl rfl ?_
          rintro ⟨⟨vc2, vr2, vfol2, vl2, vs2, F2⟩, va2, vb2⟩ hx2
          have hx2 : vs2.length = p2.follow.length := hx2
          conv => arg 8; simp only [zA, zB, zC, zD, zE, zF, zG, zH, zI, rowS, ret, id_eq, nodeSp, mkL]
          conv => arg 7; simp only [nodeSp]
          refine TW_on (sub_pick [0] (by decide) rfl) ?_
          refine TW_one rfl (TL_new rfl fun g7 => (TW_on (sub_pick [0] (by decide) rfl) ?_))
          refine TW_one rfl (TL_slv (i := 3) rfl fun _ qa1 => TL_slv (i := 4) rfl fun _ qb1 => TL_storeB (i := 13) (cs' := #[.bool e1, va1, vb1]) rfl rfl rfl rfl (by simp only [List.all_cons, List.all_nil, qa1, qb1]; rfl) rfl (TW_on (sub_pick [0] (by decide) rfl) ?_))
          repeat (first
            | ((first | refine TW_plain rfl rfl ?_ | refine TW_gmet rfl rfl rfl rfl ?_); first | refine QW QP ?_ | refine QW QL ?_ | refine QW QA ?_ | refine QW (rr_nilc rfl) ?_ | refine QW QeT ?_ | refine QW QeF ?_)
            | refine TW_skip rfl rfl rfl rfl rfl rfl rfl ?_ | refine TW_done ?_)
          refine TW_one rfl (TL_slv (i := 11) rfl fun _ qa2 => TL_slv (i := 12) rfl fun _ qb2 => TL_storeB (i := 2) (cs' := #[.bool e2, va2, vb2]) rfl rfl rfl rfl (by simp only [List.all_cons, List.all_nil, qa2, qb2]; rfl) rfl (TW_on (sub_pick [0] (by decide) rfl) ?_))
          repeat (first
            | ((first | refine TW_plain rfl rfl ?_ | refine TW_gmet rfl rfl rfl rfl ?_); first | refine QW QP ?_ | refine QW QL ?_ | refine QW QA ?_ | refine QW (rr_nilc rfl) ?_ | refine QW QeT ?_ | refine QW QeF ?_)
            | refine TW_skip rfl rfl rfl rfl rfl rfl rfl ?_ | refine TW_done ?_)
          refine E_pick [5, 6, 7, 8, 9, 10, 3, 4, 11, 12, 1, 13, 2] (by decide) rfl ?_
          exact E_mid (⟨vc2, vr2, vfol2, vl2, vs2, F2⟩, va1, vb1, va2, vb2, g7, g8) hx2 (by repeat' (first | exact True.intro | refine And.intro rfl ?_)) rfl
        · refine TL_new rfl fun g7 => (TW_on (sub_pick [0] (by decide) rfl) ?_)
          refine TW_one rfl (TL_callB [3, 4, 5, 6, 7, 8] [0, 1, 2, 9, 10, 11] (by decide) rfl rfl (he2 EntersC.en rfl rfl rfl) (fun w hm hb => hI2 ⟨vc1, vr1, vfol1, vl1, vs1, F1⟩ hx1 w _ (rex_on (hm.pick [3, 4, 5, 6, 7, 8] (by decide) rfl) hkid2) hb) rfl rfl rfl ?_)
          rintro ⟨⟨vc2, vr2, vfol2, vl2, vs2, F2⟩, va2, vb2⟩ hx2
          have hx2 : vs2.length = p2.follow.length := hx2
          conv => arg 8; simp only [zA, zB, zC, zD, zE, zF, zG, zH, zI, rowS, ret, id_eq, nodeSp, mkL]
          conv => arg 7; simp only [nodeSp]
          refine TW_on (sub_pick [0] (by decide) rfl) ?_
          refine TW_one rfl (TL_slv (i := 3) rfl fun _ qa1 => TL_slv (i := 4) rfl fun _ qb1 => TL_storeB (i := 5) (cs' := #[.bool e1, va1, vb1]) rfl rfl rfl rfl (by simp only [List.all_cons, List.all_nil, qa1, qb1]; rfl) rfl (TW_on (sub_pick [0] (by decide) rfl) ?_))
          repeat (first
            | ((first | refine TW_plain rfl rfl ?_ | refine TW_gmet rfl rfl rfl rfl ?_); first | refine QW QP ?_ | refine QW QL ?_ | refine QW QA ?_ | refine QW (rr_nilc rfl) ?_ | refine QW QeT ?_ | refine QW QeF ?_)
            | refine TW_skip rfl rfl rfl rfl rfl rfl rfl ?_ | refine TW_done ?_)
          refine TW_one rfl (TL_slv (i := 12) rfl fun _ qa2 => TL_slv (i := 13) rfl fun _ qb2 => TL_storeB (i := 2) (cs' := #[.bool e2, va2, vb2]) rfl rfl rfl rfl (by simp only [List.all_cons, List.all_nil, qa2, qb2]; rfl) rfl (TW_on (sub_pick [0] (by decide) rfl) ?_))
          repeat (first
            | ((first | refine TW_plain rfl rfl ?_ | refine TW_gmet rfl rfl rfl rfl ?_); first | refine QW QP ?_ | refine QW QL ?_ | refine QW QA ?_ | refine QW (rr_nilc rfl) ?_ | refine QW QeT ?_ | refine QW QeF ?_)
            | refine TW_skip rfl rfl rfl rfl rfl rfl rfl ?_ | refine TW_done ?_)
          refine E_pick [6, 7, 8, 9, 10, 11, 3, 4, 12, 13, 1, 5, 2] (by decide) rfl ?_
          exact E_mid (⟨vc2, vr2, vfol2, vl2, vs2, F2⟩, va1, vb1, va2, vb2, g7, g8) hx2 (by repeat' (first | exact True.intro | refine And.intro rfl ?_)) rfl
      · refine TL_new rfl fun g7 => (TW_on (sub_pick [6] (by decide) rfl) ?_)
        refine TW_one rfl (TL_callB [0, 1, 2, 3, 4, 5] [6, 7, 8, 9] (by decide) rfl rfl (he2 EntersC.en rfl rfl rfl) (fun w hm hb => hI1 w _ (rex_on (hm.pick [0, 1, 2, 3, 4, 5] (by decide) rfl) hkid1) hb) rfl rfl rfl ?_)
        rintro ⟨⟨vc1, vr1, vfol1, vl1, vs1, F1⟩, va1, vb1⟩ hx1
        have hx1 : vs1.length = p1.follow.length := hx1
        conv => arg 8; simp only [zA, zB, zC, zD, zE, zF, zG, zH, zI, rowS, ret, id_eq, nodeSp, mkL]
        conv => arg 7; simp only [nodeSp]
        refine TW_on (sub_pick [0] (by decide) rfl) ?_
        refine TW_one rfl (TL_callB [4, 5, 6, 7, 8, 9] [0, 1, 2, 3, 10, 11] (by decide) rfl rfl (he2 EntersC.en rfl rfl rfl) (fun w hm hb => hI2 ⟨vc1, vr1, vfol1, vl1, vs1, F1⟩ hx1 w _ (rex_on (hm.pick [4, 5, 6, 7, 8, 9] (by decide) rfl) hkid2) hb) rfl rfl rfl ?_)
        rintro ⟨⟨vc2, vr2, vfol2, vl2, vs2, F2⟩, va2, vb2⟩ hx2
        have hx2 : vs2.length = p2.follow.length := hx2
        conv => arg 8; simp only [zA, zB, zC, zD, zE, zF, zG, zH, zI, rowS, ret, id_eq, nodeSp, mkL]
        conv => arg 7; simp only [nodeSp]
        refine TW_on (sub_pick [0] (by decide) rfl) ?_
        refine TW_one rfl (TL_slv (i := 4) rfl fun _ qa1 => TL_slv (i := 5) rfl fun _ qb1 => TL_storeB (i := 3) (cs' := #[.bool e1, va1, vb1]) rfl rfl rfl rfl (by simp only [List.all_cons, List.all_nil, qa1, qb1]; rfl) rfl (TW_on (sub_pick [0] (by decide) rfl) ?_))
        repeat (first
          | ((first | refine TW_plain rfl rfl ?_ | refine TW_gmet rfl rfl rfl rfl ?_); first | refine QW QP ?_ | refine QW QL ?_ | refine QW QA ?_ | refine QW (rr_nilc rfl) ?_ | refine QW QeT ?_ | refine QW QeF ?_)
          | refine TW_skip rfl rfl rfl rfl rfl rfl rfl ?_ | refine TW_done ?_)
        refine TW_one rfl (TL_slv (i := 12) rfl fun _ qa2 => TL_slv (i := 13) rfl fun _ qb2 => TL_storeB (i := 2) (cs' := #[.bool e2, va2, vb2]) rfl rfl rfl rfl (by simp only [List.all_cons, List.all_nil, qa2, qb2]; rfl) rfl (TW_on (sub_pick [0] (by decide) rfl) ?_))
        repeat (first
          | ((first | refine TW_plain rfl rfl ?_ | refine TW_gmet rfl rfl rfl rfl ?_); first | refine QW QP ?_ | refine QW QL ?_ | refine QW QA ?_ | refine QW (rr_nilc rfl) ?_ | refine QW QeT ?_ | refine QW QeF ?_)
          | refine TW_skip rfl rfl rfl rfl rfl rfl rfl ?_ | refine TW_done ?_)
        refine E_pick [6, 7, 8, 9, 10, 11, 4, 5, 12, 13, 1, 3, 2] (by decide) rfl ?_
        exact E_mid (⟨vc2, vr2, vfol2, vl2, vs2, F2⟩, va1, vb1, va2, vb2, g7, g8) hx2 (by repeat' (first | exact True.intro | refine And.intro rfl ?_)) rfl
  clear hI1 hI2 hat1 hat2
  rintro ⟨⟨vc, vr, vfol, vl, vs, F⟩, va1, vb1, va2, vb2, g7, g8⟩ hx2
  have hx2 : vs.length = p2.follow.length := hx2
  dsimp only
  conv => arg 7; simp only [zA, zB, zC, zD, zE, zF, zG, zH, zI, rowS, ret, id_eq, mkL]
  have hl1 := ris_len hp4
  have hl2 := ris_len hp5
  have hl3 := ris_len kp4
  have hl4 := ris_len kp5
  repeat (first
    | refine QV QP ?_ | refine QZ ?_ | refine qcT rfl ?_ | refine qcF rfl ?_ | refine qs rfl rfl rfl rfl rfl rfl ?_
    | ((try refine qg rfl rfl rfl ?_); first | refine QV QP ?_ | refine QV (rr_load1 (v := vb1) TyC.ty rfl (at_blk (i := 11) rfl rfl)) ?_ | refine QV (rr_load1 (v := va2) TyC.ty rfl (at_blk (i := 12) rfl rfl)) ?_ | refine QV QL ?_ | refine QV QA ?_ | refine QV (rr_nilc rfl) ?_ | refine QV QeT ?_ | refine QV QeF ?_))
  refine TL_callB [0, 3, 4, 7, 8] [1, 2, 5, 6, 9, 10, 11, 12] (by decide) rfl rfl (he3 EntersC.en rfl rfl rfl rfl) (fun w hm hb => behind_calls g vc vr vf vfol vl ve rule vb1 va2 vs F p2.follow last1 first2 w _ hx2 (by rw [kp1.follow]; omega) (by rw [kp1.follow]; exact kp1.ris) (by rw [kp1.follow]; exact ris_mono hp5 kp2) (by rw [kp1.follow]; exact kp4) hb) rfl rfl rfl ?_
  rintro ⟨vs', F'⟩ hx3
  have hx3 : vs'.length = p2.follow.length := hx3
  conv => arg 8; simp only [zA, zB, zC, zD, zE, zF, zG, zH, zI, rowS, ret, id_eq, behSp]
  refine TL_rowv (i := 3) rfl fun ba ca hva _ _ => ?_
  refine TL_rowv (i := 4) rfl fun bb cb hvb _ _ => ?_
  subst hva hvb
  cases e1 with
  | true =>
    cases e2 with
    | true =>
      repeat (first
        | refine QV QP ?_ | refine QZ ?_ | refine qcT rfl ?_ | refine qcF rfl ?_ | refine qs rfl rfl rfl rfl rfl rfl ?_
        | ((try refine qg rfl rfl rfl ?_); first | refine QV QP ?_ | refine QV (rr_load1 TyC.ty rfl (at_blk (i := 6) rfl rfl)) ?_ | refine QV (rr_load1 TyC.ty rfl (at_blk (i := 7) rfl rfl)) ?_ | refine QV (rr_build rfl (build_shpA _ _ _ _ _ _ _)) ?_ | refine QV QL ?_ | refine QV QA ?_ | refine QV (rr_nilc rfl) ?_ | refine QV QeT ?_ | refine QV QeF ?_))
      refine TL_new rfl fun g11 => ?_
      conv => arg 8; simp only [zA, zB, zC, zD, zE, zF, zG, zH, zI, rowS, ret, id_eq]
      refine TL_storeB (i := 13) (cs' := #[.bool true, .slice ba first1.length ca, .slice bb last2.length cb]) rfl rfl rfl rfl rfl rfl ?_
      conv => arg 8; simp only [zA, zB, zC, zD, zE, zF, zG, zH, zI, rowS, ret, id_eq]
      repeat (first
        | refine QV QP ?_ | refine QZ ?_ | refine qcT rfl ?_ | refine qcF rfl ?_ | refine qs rfl rfl rfl rfl rfl rfl ?_
        | ((try refine qg rfl rfl rfl ?_); first | refine QV QP ?_ | refine QV (rr_load1 TyC.ty rfl (at_blk (i := 6) rfl rfl)) ?_ | refine QV (rr_load1 TyC.ty rfl (at_blk (i := 7) rfl rfl)) ?_ | refine QV QL ?_ | refine QV QA ?_ | refine QV (rr_nilc rfl) ?_ | refine QV QeT ?_ | refine QV QeF ?_))
      refine TL_call (he2 EntersC.en rfl rfl rfl) (fun w' hm => union_calls _ va2 first1 first2 w' (Sl.of_own (hm.get (i := 3) rfl)) (Sl.of_own (hm.get (i := 12) rfl)) (by omega) (by omega)) rfl rfl rfl ?_
      intro vu _
      conv => arg 8; simp only [zA, zB, zC, zD, zE, zF, zG, zH, zI, rowS, ret, id_eq, intRS]
      repeat (first
        | refine QV QP ?_ | refine QZ ?_ | refine qcT rfl ?_ | refine qcF rfl ?_ | refine qs rfl rfl rfl rfl rfl rfl ?_
        | ((try refine qg rfl rfl rfl ?_); first | refine QV QP ?_ | refine QV QL ?_ | refine QV QA ?_ | refine QV (rr_nilc rfl) ?_ | refine QV QeT ?_ | refine QV QeF ?_))
      refine TL_slv (i := 14) rfl fun qu1 qu2 => TL_store1 (i := 13) rfl rfl rfl qu1 qu2 rfl ?_
      conv => arg 8; simp only [zA, zB, zC, zD, zE, zF, zG, zH, zI, rowS, ret, id_eq]
      repeat (first
        | refine QV QP ?_ | refine QZ ?_ | refine qcT rfl ?_ | refine qcF rfl ?_ | refine qs rfl rfl rfl rfl rfl rfl ?_
        | ((try refine qg rfl rfl rfl ?_); first | refine QV QP ?_ | refine QV (rr_load1 TyC.ty rfl (at_blk (i := 6) rfl rfl)) ?_ | refine QV (rr_load1 TyC.ty rfl (at_blk (i := 7) rfl rfl)) ?_ | refine QV QL ?_ | refine QV QA ?_ | refine QV (rr_nilc rfl) ?_ | refine QV QeT ?_ | refine QV QeF ?_))
      refine TL_call (he2 EntersC.en rfl rfl rfl) (fun w' hm => union_calls vb1 _ last1 last2 w' (Sl.of_own (hm.get (i := 11) rfl)) (Sl.of_own (hm.get (i := 4) rfl)) (by omega) (by omega)) rfl rfl rfl ?_
      intro vu2 _
      conv => arg 8; simp only [zA, zB, zC, zD, zE, zF, zG, zH, zI, rowS, ret, id_eq, intRS]
      repeat (first
        | refine QV QP ?_ | refine QZ ?_ | refine qcT rfl ?_ | refine qcF rfl ?_ | refine qs rfl rfl rfl rfl rfl rfl ?_
        | ((try refine qg rfl rfl rfl ?_); first | refine QV QP ?_ | refine QV QL ?_ | refine QV QA ?_ | refine QV (rr_nilc rfl) ?_ | refine QV QeT ?_ | refine QV QeF ?_))
      refine TL_slv (i := 15) rfl fun qv1 qv2 => TL_store1 (i := 13) rfl rfl rfl qv1 qv2 rfl ?_
      conv => arg 8; simp only [zA, zB, zC, zD, zE, zF, zG, zH, zI, rowS, ret, id_eq]
      repeat (first
        | refine QV QP ?_ | refine QZ ?_ | refine qcT rfl ?_ | refine qcF rfl ?_ | refine qs rfl rfl rfl rfl rfl rfl ?_
        | ((try refine qg rfl rfl rfl ?_); first | refine QV QP ?_ | refine QV (rr_loadB (i := 13) TyC.ty rfl rfl rfl) ?_ | refine QV (rr_load1 TyC.ty rfl (at_blk (i := 6) rfl rfl)) ?_ | refine QV (rr_load1 TyC.ty rfl (at_blk (i := 7) rfl rfl)) ?_ | refine QV QL ?_ | refine QV QA ?_ | refine QV (rr_nilc rfl) ?_ | refine QV QeT ?_ | refine QV QeF ?_))
      refine TL_storeB (i := 5) (cs' := #[.bool true, vu, vu2]) rfl rfl rfl rfl (by simp only [List.all_cons, List.all_nil, qu2, qv2]; rfl) rfl ?_
      conv => arg 8; simp only [zA, zB, zC, zD, zE, zF, zG, zH, zI, rowS, ret, id_eq]
      repeat (first
        | refine QV QP ?_ | refine QZ ?_ | refine qcT rfl ?_ | refine qcF rfl ?_ | refine qs rfl rfl rfl rfl rfl rfl ?_
        | ((try refine qg rfl rfl rfl ?_); first | refine QV QP ?_ | refine QV QL ?_ | refine QV QA ?_ | refine QV (rr_nilc rfl) ?_ | refine QV QeT ?_ | refine QV QeF ?_))
      refine E_retc1 (i := 5) rfl rfl rfl rfl fun w hm => ?_
      exact hm.meetsB (S := nodeSp g vf ve rule (⟨true, uni first1 first2, uni last1 last2⟩, { p2 with follow := behindF p2.follow last1 first2 })) (⟨vc, vr, vfol, vl, vs', F'⟩, vu, vu2) (by show vs'.length = (behindF p2.follow last1 first2).length; rw [behind_len]; exact hx3) [8, 0, 1, 9, 10, 2, 14, 15] (by decide) rfl
    | false =>
      repeat (first
        | refine QV QP ?_ | refine QZ ?_ | refine qcT rfl ?_ | refine qcF rfl ?_ | refine qs rfl rfl rfl rfl rfl rfl ?_
        | ((try refine qg rfl rfl rfl ?_); first | refine QV QP ?_ | refine QV (rr_load1 TyC.ty rfl (at_blk (i := 6) rfl rfl)) ?_ | refine QV (rr_load1 TyC.ty rfl (at_blk (i := 7) rfl rfl)) ?_ | refine QV (rr_build rfl (build_shpA _ _ _ _ _ _ _)) ?_ | refine QV QL ?_ | refine QV QA ?_ | refine QV (rr_nilc rfl) ?_ | refine QV QeT ?_ | refine QV QeF ?_))
      refine TL_new rfl fun g11 => ?_
      conv => arg 8; simp only [zA, zB, zC, zD, zE, zF, zG, zH, zI, rowS, ret, id_eq]
      refine TL_storeB (i := 13) (cs' := #[.bool false, .slice ba first1.length ca, .slice bb last2.length cb]) rfl rfl rfl rfl rfl rfl ?_
      conv => arg 8; simp only [zA, zB, zC, zD, zE, zF, zG, zH, zI, rowS, ret, id_eq]
      repeat (first
        | refine QV QP ?_ | refine QZ ?_ | refine qcT rfl ?_ | refine qcF rfl ?_ | refine qs rfl rfl rfl rfl rfl rfl ?_
        | ((try refine qg rfl rfl rfl ?_); first | refine QV QP ?_ | refine QV (rr_load1 TyC.ty rfl (at_blk (i := 6) rfl rfl)) ?_ | refine QV (rr_load1 TyC.ty rfl (at_blk (i := 7) rfl rfl)) ?_ | refine QV QL ?_ | refine QV QA ?_ | refine QV (rr_nilc rfl) ?_ | refine QV QeT ?_ | refine QV QeF ?_))
      refine TL_call (he2 EntersC.en rfl rfl rfl) (fun w' hm => union_calls _ va2 first1 first2 w' (Sl.of_own (hm.get (i := 3) rfl)) (Sl.of_own (hm.get (i := 12) rfl)) (by omega) (by omega)) rfl rfl rfl ?_
      intro vu _
      conv => arg 8; simp only [zA, zB, zC, zD, zE, zF, zG, zH, zI, rowS, ret, id_eq, intRS]
      repeat (first
        | refine QV QP ?_ | refine QZ ?_ | refine qcT rfl ?_ | refine qcF rfl ?_ | refine qs rfl rfl rfl rfl rfl rfl ?_
        | ((try refine qg rfl rfl rfl ?_); first | refine QV QP ?_ | refine QV QL ?_ | refine QV QA ?_ | refine QV (rr_nilc rfl) ?_ | refine QV QeT ?_ | refine QV QeF ?_))
      refine TL_slv (i := 14) rfl fun qu1 qu2 => TL_store1 (i := 13) rfl rfl rfl qu1 qu2 rfl ?_
      conv => arg 8; simp only [zA, zB, zC, zD, zE, zF, zG, zH, zI, rowS, ret, id_eq]
      repeat (first
        | refine QV QP ?_ | refine QZ ?_ | refine qcT rfl ?_ | refine qcF rfl ?_ | refine qs rfl rfl rfl rfl rfl rfl ?_
        | ((try refine qg rfl rfl rfl ?_); first | refine QV QP ?_ | refine QV (rr_loadB (i := 13) TyC.ty rfl rfl rfl) ?_ | refine QV (rr_load1 TyC.ty rfl (at_blk (i := 6) rfl rfl)) ?_ | refine QV (rr_load1 TyC.ty rfl (at_blk (i := 7) rfl rfl)) ?_ | refine QV QL ?_ | refine QV QA ?_ | refine QV (rr_nilc rfl) ?_ | refine QV QeT ?_ | refine QV QeF ?_))
      refine TL_storeB (i := 5) (cs' := #[.bool false, vu, .slice bb last2.length cb]) rfl rfl rfl rfl (by simp only [List.all_cons, List.all_nil, qu2]; rfl) rfl ?_
      conv => arg 8; simp only [zA, zB, zC, zD, zE, zF, zG, zH, zI, rowS, ret, id_eq]
      repeat (first
        | refine QV QP ?_ | refine QZ ?_ | refine qcT rfl ?_ | refine qcF rfl ?_ | refine qs rfl rfl rfl rfl rfl rfl ?_
        | ((try refine qg rfl rfl rfl ?_); first | refine QV QP ?_ | refine QV QL ?_ | refine QV QA ?_ | refine QV (rr_nilc rfl) ?_ | refine QV QeT ?_ | refine QV QeF ?_))
      refine E_retc1 (i := 5) rfl rfl rfl rfl fun w hm => ?_
      exact hm.meetsB (S := nodeSp g vf ve rule (⟨false, uni first1 first2, last2⟩, { p2 with follow := behindF p2.follow last1 first2 })) (⟨vc, vr, vfol, vl, vs', F'⟩, vu, .slice bb last2.length cb) (by show vs'.length = (behindF p2.follow last1 first2).length; rw [behind_len]; exact hx3) [8, 0, 1, 9, 10, 2, 14, 4] (by decide) rfl
  | false =>
    cases e2 with
    | true =>
      repeat (first
        | refine QV QP ?_ | refine QZ ?_ | refine qcT rfl ?_ | refine qcF rfl ?_ | refine qs rfl rfl rfl rfl rfl rfl ?_
        | ((try refine qg rfl rfl rfl ?_); first | refine QV QP ?_ | refine QV (rr_load1 TyC.ty rfl (at_blk (i := 6) rfl rfl)) ?_ | refine QV (rr_load1 TyC.ty rfl (at_blk (i := 7) rfl rfl)) ?_ | refine QV (rr_build rfl (build_shpA _ _ _ _ _ _ _)) ?_ | refine QV QL ?_ | refine QV QA ?_ | refine QV (rr_nilc rfl) ?_ | refine QV QeT ?_ | refine QV QeF ?_))
      refine TL_new rfl fun g11 => ?_
      conv => arg 8; simp only [zA, zB, zC, zD, zE, zF, zG, zH, zI, rowS, ret, id_eq]
      refine TL_storeB (i := 13) (cs' := #[.bool false, .slice ba first1.length ca, .slice bb last2.length cb]) rfl rfl rfl rfl rfl rfl ?_
      conv => arg 8; simp only [zA, zB, zC, zD, zE, zF, zG, zH, zI, rowS, ret, id_eq]
      repeat (first
        | refine QV QP ?_ | refine QZ ?_ | refine qcT rfl ?_ | refine qcF rfl ?_ | refine qs rfl rfl rfl rfl rfl rfl ?_
        | ((try refine qg rfl rfl rfl ?_); first | refine QV QP ?_ | refine QV (rr_load1 TyC.ty rfl (at_blk (i := 6) rfl rfl)) ?_ | refine QV (rr_load1 TyC.ty rfl (at_blk (i := 7) rfl rfl)) ?_ | refine QV QL ?_ | refine QV QA ?_ | refine QV (rr_nilc rfl) ?_ | refine QV QeT ?_ | refine QV QeF ?_))
      refine TL_call (he2 EntersC.en rfl rfl rfl) (fun w' hm => union_calls vb1 _ last1 last2 w' (Sl.of_own (hm.get (i := 11) rfl)) (Sl.of_own (hm.get (i := 4) rfl)) (by omega) (by omega)) rfl rfl rfl ?_
      intro vu2 _
      conv => arg 8; simp only [zA, zB, zC, zD, zE, zF, zG, zH, zI, rowS, ret, id_eq, intRS]
      repeat (first
        | refine QV QP ?_ | refine QZ ?_ | refine qcT rfl ?_ | refine qcF rfl ?_ | refine qs rfl rfl rfl rfl rfl rfl ?_
        | ((try refine qg rfl rfl rfl ?_); first | refine QV QP ?_ | refine QV QL ?_ | refine QV QA ?_ | refine QV (rr_nilc rfl) ?_ | refine QV QeT ?_ | refine QV QeF ?_))
      refine TL_slv (i := 14) rfl fun qv1 qv2 => TL_store1 (i := 13) rfl rfl rfl qv1 qv2 rfl ?_
      conv => arg 8; simp only [zA, zB, zC, zD, zE, zF, zG, zH, zI, rowS, ret, id_eq]
      repeat (first
        | refine QV QP ?_ | refine QZ ?_ | refine qcT rfl ?_ | refine qcF rfl ?_ | refine qs rfl rfl rfl rfl rfl rfl ?_
        | ((try refine qg rfl rfl rfl ?_); first | refine QV QP ?_ | refine QV (rr_loadB (i := 13) TyC.ty rfl rfl rfl) ?_ | refine QV (rr_load1 TyC.ty rfl (at_blk (i := 6) rfl rfl)) ?_ | refine QV (rr_load1 TyC.ty rfl (at_blk (i := 7) rfl rfl)) ?_ | refine QV QL ?_ | refine QV QA ?_ | refine QV (rr_nilc rfl) ?_ | refine QV QeT ?_ | refine QV QeF ?_))
      refine TL_storeB (i := 5) (cs' := #[.bool false, .slice ba first1.length ca, vu2]) rfl rfl rfl rfl (by simp only [List.all_cons, List.all_nil, qv2]; rfl) rfl ?_
      conv => arg 8; simp only [zA, zB, zC, zD, zE, zF, zG, zH, zI, rowS, ret, id_eq]
      repeat (first
        | refine QV QP ?_ | refine QZ ?_ | refine qcT rfl ?_ | refine qcF rfl ?_ | refine qs rfl rfl rfl rfl rfl rfl ?_
        | ((try refine qg rfl rfl rfl ?_); first | refine QV QP ?_ | refine QV QL ?_ | refine QV QA ?_ | refine QV (rr_nilc rfl) ?_ | refine QV QeT ?_ | refine QV QeF ?_))
      refine E_retc1 (i := 5) rfl rfl rfl rfl fun w hm => ?_
      exact hm.meetsB (S := nodeSp g vf ve rule (⟨false, first1, uni last1 last2⟩, { p2 with follow := behindF p2.follow last1 first2 })) (⟨vc, vr, vfol, vl, vs', F'⟩, .slice ba first1.length ca, vu2) (by show vs'.length = (behindF p2.follow last1 first2).length; rw [behind_len]; exact hx3) [8, 0, 1, 9, 10, 2, 3, 14] (by decide) rfl
    | false =>
      repeat (first
        | refine QV QP ?_ | refine QZ ?_ | refine qcT rfl ?_ | refine qcF rfl ?_ | refine qs rfl rfl rfl rfl rfl rfl ?_
        | ((try refine qg rfl rfl rfl ?_); first | refine QV QP ?_ | refine QV (rr_load1 TyC.ty rfl (at_blk (i := 6) rfl rfl)) ?_ | refine QV (rr_load1 TyC.ty rfl (at_blk (i := 7) rfl rfl)) ?_ | refine QV (rr_build rfl (build_shpA _ _ _ _ _ _ _)) ?_ | refine QV QL ?_ | refine QV QA ?_ | refine QV (rr_nilc rfl) ?_ | refine QV QeT ?_ | refine QV QeF ?_))
      refine TL_new rfl fun g11 => ?_
      conv => arg 8; simp only [zA, zB, zC, zD, zE, zF, zG, zH, zI, rowS, ret, id_eq]
      refine TL_storeB (i := 13) (cs' := #[.bool false, .slice ba first1.length ca, .slice bb last2.length cb]) rfl rfl rfl rfl rfl rfl ?_
      conv => arg 8; simp only [zA, zB, zC, zD, zE, zF, zG, zH, zI, rowS, ret, id_eq]
      repeat (first
        | refine QV QP ?_ | refine QZ ?_ | refine qcT rfl ?_ | refine qcF rfl ?_ | refine qs rfl rfl rfl rfl rfl rfl ?_
        | ((try refine qg rfl rfl rfl ?_); first | refine QV QP ?_ | refine QV (rr_loadB (i := 13) TyC.ty rfl rfl rfl) ?_ | refine QV (rr_load1 TyC.ty rfl (at_blk (i := 6) rfl rfl)) ?_ | refine QV (rr_load1 TyC.ty rfl (at_blk (i := 7) rfl rfl)) ?_ | refine QV QL ?_ | refine QV QA ?_ | refine QV (rr_nilc rfl) ?_ | refine QV QeT ?_ | refine QV QeF ?_))
      refine TL_storeB (i := 5) (cs' := #[.bool false, .slice ba first1.length ca, .slice bb last2.length cb]) rfl rfl rfl rfl rfl rfl ?_
      conv => arg 8; simp only [zA, zB, zC, zD, zE, zF, zG, zH, zI, rowS, ret, id_eq]
      repeat (first
        | refine QV QP ?_ | refine QZ ?_ | refine qcT rfl ?_ | refine qcF rfl ?_ | refine qs rfl rfl rfl rfl rfl rfl ?_
        | ((try refine qg rfl rfl rfl ?_); first | refine QV QP ?_ | refine QV QL ?_ | refine QV QA ?_ | refine QV (rr_nilc rfl) ?_ | refine QV QeT ?_ | refine QV QeF ?_))
      refine E_retc1 (i := 5) rfl rfl rfl rfl fun w hm => ?_
      exact hm.meetsB (S := nodeSp g vf ve rule (⟨false, first1, last2⟩, { p2 with follow := behindF p2.follow last1 first2 })) (⟨vc, vr, vfol, vl, vs', F'⟩, .slice ba first1.length ca, .slice bb last2.length cb) (by show vs'.length = (behindF p2.follow last1 first2).length; rw [behind_len]; exact hx3) [8, 0, 1, 9, 10, 2, 3, 4] (by decide) rfl
end Go.Proofs.Ytkmemlnkijinlaa.eng

/- PlD -/
namespace Go.Proofs.Ytkmemlnkijinlaa.eng
open Go.RowKit kit mix classL rexL placesL
theorem node_at : ∀ M, NodeAt M
  | 0 => fun e h => by have := e.size_pos; omega
  | M + 1 => fun e h g vf ve rule p x v w B hp hx hn hr hv hm => by
    cases e with
    | none => exact node_none g vf ve rule p x v w B hx hv hm
    | empty => exact node_empty g vf ve rule p x v w B hx hv hm
    | byte c => exact node_byte c g vf ve rule p x v w B hp hx (by omega) hv hm
    | star a =>
      have h : a.size + 1 ≤ M + 1 := h
      exact node_star (node_at M) a (by omega) g vf ve rule p x v w B hp hx hn hr hv hm
    | alt a b =>
      have h : a.size + b.size + 1 ≤ M + 1 := h
      exact node_alt (node_at M) a b (by omega) (by omega) g vf ve rule p x v w B hp hx hn hr hv hm
    | cat a b =>
      have h : a.size + b.size + 1 ≤ M + 1 := h
      exact node_cat (node_at M) a b (by omega) (by omega) g vf ve rule p x v w B hp hx hn hr hv hm
end Go.Proofs.Ytkmemlnkijinlaa.eng

/- PlacesM -/
namespace Go.Proofs.Ytkmemlnkijinlaa.placesL
open classL rexL
structure MS where
  ps : PS
  first : List Int
  empty : List Bool
def MS.zero : MS := ⟨⟨[], [], [], []⟩, [], []⟩
def markF (last : List Bool) (l : List Int) : List Bool := l.foldl (fun b x => b.set x.toNat true) last
def stepM (i : Nat) (m : MS) (e : Re) : MS :=
  ⟨{ (nodeF i e m.ps).2 with last := markF (nodeF i e m.ps).2.last (nodeF i e m.ps).1.last }, uni m.first (nodeF i e m.ps).1.first, m.empty ++ [(nodeF i e m.ps).1.empty]⟩
def loopM : Nat → MS → List Re → Int × MS
  | _, m, [] => (0, m)
  | i, m, e :: r => if 200 < (stepM i m e).ps.classes.length then (2, .zero) else loopM (i + 1) (stepM i m e) r
abbrev chkR (r : Rx) : Int := (chk r 1 0).1
/-- the first rule that is none tells the error -/
def checkM : List Rx → Int
  | [] => 0
  | r :: l => if chkR r ≠ 0 then chkR r else checkM l
structure MSOk (m : MS) : Prop where
  ps : PSOk m.ps
  first : Ris m.ps.classes.length m.first
theorem mark_len (last : List Bool) (l : List Int) : (markF last l).length = last.length := by
  unfold markF
  induction l generalizing last with
  | nil => rfl
  | cons x r ih => rw [List.foldl_cons, ih, List.length_set]
theorem mark_step (last : List Bool) (l : List Int) {k : Nat} (hk : k < l.length) : markF last (l.take (k + 1)) = (markF last (l.take k)).set l[k].toNat true := by
  unfold markF
  rw [List.take_succ_eq_append_getElem hk, List.foldl_append]; rfl
theorem zero_ok : MSOk .zero := ⟨⟨rfl, rfl, rfl, fun l h => by cases h⟩, ris_nil _⟩
theorem step_ok (i : Nat) {m : MS} (h : MSOk m) (e : Re) : MSOk (stepM i m e) ∧ (stepM i m e).ps.classes.length ≤ m.ps.classes.length + e.size := by
  obtain ⟨h1, h2, h3, h4, h5⟩ := node_ok i e m.ps h.ps
  exact ⟨⟨⟨h1.rules, h1.follow, (mark_len _ _).trans h1.last, h1.ris⟩, ris_uni (ris_mono h.first h2).2 h4.2⟩, h3⟩
end Go.Proofs.Ytkmemlnkijinlaa.placesL

/- ClsEq -/
namespace Go.Proofs.Ytkmemlnkijinlaa.classSets
open Go.RowKit kit mix classL eng
set_option maxRecDepth 100000 in
theorem eq_cls (x y : C4) (w : World) : (Op.equalIn 10000 60 (.agg #[v64 x.a, v64 x.b, v64 x.c, v64 x.d]) (.agg #[v64 y.a, v64 y.b, v64 y.c, v64 y.d])).run Try.prog w = .ok (decide (x = y)) w := by
  have e : (Op.equalIn 10000 60 (.agg #[v64 x.a, v64 x.b, v64 x.c, v64 x.d]) (.agg #[v64 y.a, v64 y.b, v64 y.c, v64 y.d])).run Try.prog w = .ok ((n64 x.a == n64 y.a) && ((n64 x.b == n64 y.b) && ((n64 x.c == n64 y.c) && (n64 x.d == n64 y.d)))) w := by
    unfold v64
    rw [run_equalIn_array (P := Try.prog) w 9999 (n := 4) (e := 58) _ _ rfl rfl]
    have h1 : Try.prog.cellsOf 58 = 1 := rfl
    simp [Op.eqItems, go_sem, List.range_succ_eq_map, h1]
    by_cases e1 : n64 x.a = n64 y.a <;> by_cases e2 : n64 x.b = n64 y.b <;> by_cases e3 : n64 x.c = n64 y.c <;> by_cases e4 : n64 x.d = n64 y.d <;> simp [e1, e2, e3, e4]
  rw [e]
  congr 1
  by_cases h : x = y
  · subst h; simp
  · rw [decide_eq_false h]
    simp only [n64_eq, Bool.and_eq_false_iff]
    by_cases h1 : x.a = y.a
    · by_cases h2 : x.b = y.b
      · by_cases h3 : x.c = y.c
        · by_cases h4 : x.d = y.d
          · exact absurd (C4.ext' h1 h2 h3 h4) h
          · simp [h4]
        · simp [h3]
      · simp [h2]
    · simp [h1]
end Go.Proofs.Ytkmemlnkijinlaa.classSets

/- RexC -/
namespace Go.Proofs.Ytkmemlnkijinlaa.eng
open Go.RowKit kit mix classL rexL
theorem rkids_calls (k : Int) (w : World) : Calls Try.prog 54 #[.int .i64 k] w (Meets (ret (.int .i64 (kidsN k))) w) := by
  unfold kidsN
  refine enter (args := [.int .i64 k]) (n := 13) Try.func54 rfl rfl rfl ?_
  by_cases k1 : k = 1
  · rw [if_pos k1]
    repeat (first
      | refine QV QP ?_ | refine QZ ?_ | refine qcT rfl ?_ | refine qcF rfl ?_ | refine QV QeT ?_ | refine QV QeF ?_)
    exact E_ret1 rfl rfl fun w hm => hm.ret
  rw [if_neg k1]
  by_cases k2 : k = 2
  · rw [if_pos k2]
    repeat (first
      | refine QV QP ?_ | refine QZ ?_ | refine qcT rfl ?_ | refine qcF rfl ?_ | refine QV QeT ?_ | refine QV QeF ?_)
    exact E_ret1 rfl rfl fun w hm => hm.ret
  rw [if_neg k2]
  by_cases k3 : k = 3
  · rw [if_pos k3]
    repeat (first
      | refine QV QP ?_ | refine QZ ?_ | refine qcT rfl ?_ | refine qcF rfl ?_ | refine QV QeT ?_ | refine QV QeF ?_)
    exact E_ret1 rfl rfl fun w hm => hm.ret
  rw [if_neg k3]
  by_cases k6 : k = 6
  · rw [if_pos k6]
    repeat (first
      | refine QV QP ?_ | refine QZ ?_ | refine qcT rfl ?_ | refine qcF rfl ?_ | refine QV QeT ?_ | refine QV QeF ?_)
    exact E_ret1 rfl rfl fun w hm => hm.ret
  rw [if_neg k6]
  by_cases k4 : k = 4
  · rw [if_pos k4]
    repeat (first
      | refine QV QP ?_ | refine QZ ?_ | refine qcT rfl ?_ | refine qcF rfl ?_ | refine QV QeT ?_ | refine QV QeF ?_)
    exact E_ret1 rfl rfl fun w hm => hm.ret
  rw [if_neg k4]
  by_cases k5 : k = 5
  · rw [if_pos k5]
    repeat (first
      | refine QV QP ?_ | refine QZ ?_ | refine qcT rfl ?_ | refine qcF rfl ?_ | refine QV QeT ?_ | refine QV QeF ?_)
    exact E_ret1 rfl rfl fun w hm => hm.ret
  rw [if_neg k5]
  repeat (first
    | refine QV QP ?_ | refine QZ ?_ | refine qcT rfl ?_ | refine qcF rfl ?_ | refine QV QeT ?_ | refine QV QeF ?_)
  exact E_ret1 rfl rfl fun w hm => hm.ret
theorem chk_le {r : Rx} {deep n : Nat} (h : (chk r deep n).1 = 0) : (chk r deep n).2 ≤ 100 := by
  obtain ⟨e, _, h1, h2⟩ := chk_fit _ r deep n (chk r deep n).2 (Nat.le_refl _) (Prod.ext h rfl)
  have := h1.sz
  omega
theorem build_cz (w : World) : (Instr.build 60 (#[] : Array (Nat × Value))).run Try.prog w = .ok (clsV C4.zero) w := by kernel_rfl
theorem eqCls (x y : C4) (w : World) : (Op.equalIn 10000 60 (clsV x) (clsV y)).run Try.prog w = .ok (decide (x = y)) w := classSets.eq_cls x y w
theorem at_oldR {W0 : World} {W : Base} {L : List Own} {b off : Nat} {cs : List Value} (ho : Old W0 W) (h : Rd W0 b off cs) (j : Nat) (v : Value) (hj : cs[j]? = some v) : At W L ⟨b, off + j, none⟩ v := at_old0 ho (h j v hj)
theorem rex_cls {k : Int} {c : C4} {vk : Value} {j : Nat} {v : Value} (h : (clsL c)[j]? = some v) : (rexC k c vk).toArray[0 + 1 + j]? = some v := by
  have hj : j < (clsL c).length := (List.getElem?_eq_some_iff.1 h).1
  rw [List.getElem?_toArray, show 0 + 1 + j = j + 1 by omega]
  show (clsL c ++ [vk])[j]? = _
  rw [List.getElem?_append_left hj]; exact h
set_option maxRecDepth 100000 in
set_option maxHeartbeats 16000000 in
theorem check_calls (w0 : World) (gn : Nat) : ∀ (N : Nat) (r : Rx), sizeX r ≤ N → ∀ (v : Value) (deep n : Nat) (w : World) (B : Base), RexR (Low w0) w0 v r → n ≤ 100 → deep ≤ 31 → Old w0 B → Mem B [blkO gn #[.int .i64 (n : Int)] 3] w →
    Calls Try.prog 44 #[v, .int .i64 (deep : Int), .pointer (some ⟨gn, 0, none⟩)] w (MeetsB ⟨fun (_ : Unit) => True, fun _ => .int .i64 (chk r deep n).1, fun _ => [blkO gn #[.int .i64 ((chk r deep n).2 : Int)] 3]⟩ B)
  | 0, r, h, _, _, _, _, _, _, _, _, _, _ => by have := sizeX_pos r; omega
  | N + 1, .mk k c kids, hN, v, deep, n, w, B, hv, hn, hd, ho, hm => by
    have IH := check_calls w0 gn N
    obtain ⟨vk, rfl, hk64, hks⟩ := hv
    dsimp only [Rx.kind, Rx.cls, Rx.kids] at hk64 hks ⊢
    obtain ⟨bk, ck, rfl, hck, hmk, hrk⟩ := hks
    unfold maxLen at hmk
    rw [chk]
    rw [sizeX] at hN
    have hkc := fun w => rkids_calls k w
    have heq := eqCls c C4.zero
    have hcz := build_cz
    refine enterB hm (args := [rexV k c (.slice bk kids.length ck), .int .i64 (deep : Int), .pointer (some ⟨gn, 0, none⟩)]) (n := 55) Try.func44 rfl rfl rfl ?_
    clear hm
    refine T_seq (T_region (TL_box rfl rfl rfl fun g3 => ?_))
    conv => arg 8; simp only [zA, zB, zC, zD, zE, zF, zG, zH, zI, rowS, ret, id_eq]
    repeat (first
      | refine QV QP ?_ | refine QZ ?_ | refine qcT rfl ?_ | refine qcF rfl ?_ | refine E_blockX ?_ | refine E_blockO rfl ?_ | refine QV (rr_nilc rfl) ?_
      | refine QV (rr_load1 TyC.ty rfl (at_blk (i := 0) rfl rfl)) ?_
      | refine QV (rr_add64 (r := ((n + 1 : Nat) : Int)) rfl rfl (by omega) (by omega) (by omega)) ?_ | refine QV QL ?_ | refine QV QA ?_
      | refine QV (rr_nilc rfl) ?_ | refine QV QlT ?_ | refine QV QlF ?_ | refine QV QgT ?_ | refine QV QgF ?_ | refine QV QeT ?_ | refine QV QeF ?_
      | refine QV QnT ?_ | refine QV QnF ?_ | refine QV QaA ?_)
    refine TL_store1 (i := 0) rfl rfl rfl rfl rfl rfl ?_
    rw [show (#[.int .i64 (n : Int)] : Array Value).setIfInBounds 0 (.int .i64 ((n + 1 : Nat) : Int)) = #[.int .i64 ((n + 1 : Nat) : Int)] from rfl]
    conv => arg 8; simp only [zA, zB, zC, zD, zE, zF, zG, zH, zI, rowS, ret, id_eq]
    by_cases c1 : 100 < n + 1
    · rw [if_pos c1]
      repeat (first
        | refine QV QP ?_ | refine QZ ?_ | refine qcT rfl ?_ | refine qcF rfl ?_ | refine E_blockX ?_ | refine E_blockO rfl ?_ | refine QV (rr_nilc rfl) ?_
        | refine QV (rr_load1 TyC.ty rfl (at_blk (i := 0) rfl rfl)) ?_ | refine QV QL ?_ | refine QV QA ?_ | refine QV (rr_nilc rfl) ?_ | refine QV QlT ?_
        | refine QV QlF ?_ | refine QV QgT ?_ | refine QV QgF ?_ | refine QV QeT ?_ | refine QV QeF ?_ | refine QV QnT ?_ | refine QV QnF ?_ | refine QV QaA ?_)
      exact E_ret1 rfl rfl fun w hm => hm.meetsB (S := ⟨fun (_ : Unit) => True, fun _ => .int .i64 2, fun _ => [blkO gn #[.int .i64 ((n + 1 : Nat) : Int)] 3]⟩) () trivial [0] (by decide) rfl
    rw [if_neg c1]
    by_cases c2 : 30 < deep
    · rw [if_pos c2]
      repeat (first
        | refine QV QP ?_ | refine QZ ?_ | refine qcT rfl ?_ | refine qcF rfl ?_ | refine E_blockX ?_ | refine E_blockO rfl ?_ | refine QV (rr_nilc rfl) ?_
        | refine QV (rr_load1 TyC.ty rfl (at_blk (i := 0) rfl rfl)) ?_ | refine QV QL ?_ | refine QV QA ?_ | refine QV (rr_nilc rfl) ?_ | refine QV QlT ?_
        | refine QV QlF ?_ | refine QV QgT ?_ | refine QV QgF ?_ | refine QV QeT ?_ | refine QV QeF ?_ | refine QV QnT ?_ | refine QV QnF ?_ | refine QV QaA ?_)
      exact E_ret1 rfl rfl fun w hm => hm.meetsB (S := ⟨fun (_ : Unit) => True, fun _ => .int .i64 7, fun _ => [blkO gn #[.int .i64 ((n + 1 : Nat) : Int)] 3]⟩) () trivial [0] (by decide) rfl
    rw [if_neg c2]
    repeat (first
      | refine QV QP ?_ | refine QZ ?_ | refine qcT rfl ?_ | refine qcF rfl ?_ | refine E_blockX ?_ | refine E_blockO rfl ?_ | refine QV (rr_nilc rfl) ?_
      | refine QV (rr_load1 TyC.ty rfl (at_blk (i := 0) rfl rfl)) ?_ | refine QV QL ?_ | refine QV QA ?_ | refine QV (rr_nilc rfl) ?_ | refine QV QlT ?_
      | refine QV QlF ?_ | refine QV QgT ?_ | refine QV QgF ?_ | refine QV QeT ?_ | refine QV QeF ?_ | refine QV QnT ?_ | refine QV QnF ?_ | refine QV QaA ?_)
    by_cases c3 : kidsN k ≠ (kids.length : Int)
    · rw [if_pos c3]
      (repeat refine T_seq ?_)
      refine T_ord ([blkO g3 (rexC k c (.slice bk kids.length ck)).toArray 63]) (.calm 0 (.calm 1 (.calm 2 (.calm 3 (.calm 4 (.calm 5 (.calm 6 (.calm 7 (.done))))))))) (sub_pick [1] (by decide) rfl) (by kernel_rfl) (by kernel_rfl) (by intro c a d v w h; cases d <;> exact h) ?_
      repeat (first
        | ((first | refine TW_plain rfl rfl ?_ | refine TW_gmet rfl rfl rfl rfl ?_); first | refine QW QP ?_ | refine QW (rr_load1 TyC.ty rfl (at_blk (i := 0) rfl rfl)) ?_ | refine QW QL ?_ | refine QW QA ?_ | refine QW (rr_nilc rfl) ?_ | refine QW QlT ?_ | refine QW QlF ?_ | refine QW QgT ?_ | refine QW QgF ?_ | refine QW QeT ?_ | refine QW QeF ?_ | refine QW QnT ?_ | refine QW QnF ?_ | refine QW QaA ?_)
        | refine TW_done ?_)
      refine TW_call rfl (he1 EntersC.en rfl rfl) (fun w hm => hkc _) rfl rfl rfl ?_
      repeat (first
        | ((first | refine TW_plain rfl rfl ?_ | refine TW_gmet rfl rfl rfl rfl ?_); first | refine QW QP ?_ | refine QW (rr_load1 TyC.ty rfl (at_blk (i := 0) rfl rfl)) ?_ | refine QW (rr_neq (b := true) rfl rfl (decide_eq_true c3)) ?_ | refine QW QL ?_ | refine QW QA ?_ | refine QW (rr_nilc rfl) ?_ | refine QW QlT ?_ | refine QW QlF ?_ | refine QW QgT ?_ | refine QW QgF ?_ | refine QW QeT ?_ | refine QW QeF ?_ | refine QW QnT ?_ | refine QW QnF ?_ | refine QW QaA ?_)
        | refine TW_done ?_)
      repeat (first
        | refine QV QP ?_ | refine QZ ?_ | refine qcT rfl ?_ | refine qcF rfl ?_ | refine E_blockX ?_ | refine E_blockO rfl ?_ | refine QV QL ?_
        | refine QV QA ?_ | refine QV (rr_nilc rfl) ?_ | refine QV QlT ?_ | refine QV QlF ?_ | refine QV QgT ?_ | refine QV QgF ?_ | refine QV QeT ?_
        | refine QV QeF ?_ | refine QV QnT ?_ | refine QV QnF ?_ | refine QV QaA ?_)
      exact E_ret1 rfl rfl fun w hm => hm.meetsB (S := ⟨fun (_ : Unit) => True, fun _ => .int .i64 1, fun _ => [blkO gn #[.int .i64 ((n + 1 : Nat) : Int)] 3]⟩) () trivial [0] (by decide) rfl
    rw [if_neg c3]
    have c3' : kidsN k = (kids.length : Int) := by simpa using c3
    rw [c3'] at hkc
    (repeat refine T_seq ?_)
    refine T_ord ([blkO g3 (rexC k c (.slice bk kids.length ck)).toArray 63]) (.calm 0 (.calm 1 (.calm 2 (.calm 3 (.calm 4 (.calm 5 (.calm 6 (.calm 7 (.done))))))))) (sub_pick [1] (by decide) rfl) (by kernel_rfl) (by kernel_rfl) (by intro c a d v w h; cases d <;> exact h) ?_
    repeat (first
      | ((first | refine TW_plain rfl rfl ?_ | refine TW_gmet rfl rfl rfl rfl ?_); first | refine QW QP ?_ | refine QW (rr_load1 TyC.ty rfl (at_blk (i := 0) rfl rfl)) ?_ | refine QW QL ?_ | refine QW QA ?_ | refine QW (rr_nilc rfl) ?_ | refine QW QlT ?_ | refine QW QlF ?_ | refine QW QgT ?_ | refine QW QgF ?_ | refine QW QeT ?_ | refine QW QeF ?_ | refine QW QnT ?_ | refine QW QnF ?_ | refine QW QaA ?_)
      | refine TW_done ?_)
    refine TW_call rfl (he1 EntersC.en rfl rfl) (fun w hm => hkc _) rfl rfl rfl ?_
    repeat (first
      | ((first | refine TW_plain rfl rfl ?_ | refine TW_gmet rfl rfl rfl rfl ?_); first | refine QW QP ?_ | refine QW (rr_load1 TyC.ty rfl (at_blk (i := 0) rfl rfl)) ?_ | refine QW (rr_neq (b := false) rfl rfl (decide_eq_false (fun h => h rfl))) ?_ | refine QW QL ?_ | refine QW QA ?_ | refine QW (rr_nilc rfl) ?_ | refine QW QlT ?_ | refine QW QlF ?_ | refine QW QgT ?_ | refine QW QgF ?_ | refine QW QeT ?_ | refine QW QeF ?_ | refine QW QnT ?_ | refine QW QnF ?_ | refine QW QaA ?_)
      | refine TW_done ?_)
    repeat (first
      | refine QV QP ?_ | refine QZ ?_ | refine qcT rfl ?_ | refine qcF rfl ?_ | refine E_blockX ?_ | refine E_blockO rfl ?_ | refine QV QL ?_
      | refine QV QA ?_ | refine QV (rr_nilc rfl) ?_ | refine QV QlT ?_ | refine QV QlF ?_ | refine QV QgT ?_ | refine QV QgF ?_ | refine QV QeT ?_
      | refine QV QeF ?_ | refine QV QnT ?_ | refine QV QnF ?_ | refine QV QaA ?_)
    generalize hD : (decide (k = 3) != decide (c ≠ C4.zero)) = D
    have hD' : (!(decide (k = 3) == !decide (c = C4.zero))) = D := by
      rw [← hD, decide_not]
      cases decide (k = 3) <;> cases decide (c = C4.zero) <;> rfl
    (repeat refine T_seq ?_)
    refine T_ord ([blkO g3 (rexC k c (.slice bk kids.length ck)).toArray 63]) (.calm 0 (.calm 1 (.calm 2 (.calm 3 (.calm 4 (.calm 5 (.calm 6 (.calm 7 (.calm 8 (.done)))))))))) (sub_pick [1] (by decide) rfl) (by kernel_rfl) (by kernel_rfl) (by intro c a d v w h; cases d <;> exact h) ?_
    repeat (first
      | ((first | refine TW_plain rfl rfl ?_ | refine TW_gmet rfl rfl rfl rfl ?_); first | refine QW QP ?_ | refine QW (rr_load1 TyC.ty rfl (at_blk (i := 0) rfl rfl)) ?_ | refine QW (rr_eql (b := decide (k = 3)) rfl rfl rfl) ?_ | refine QW (rr_loadN (cs := clsL c) TyC.ty rfl rfl (fun j v hj => at_blk (i := 0) rfl (rex_cls hj))) ?_ | refine QW (rr_build rfl hcz) ?_ | refine QW (rr_aggne rfl rfl (by kernel_rfl) heq rfl) ?_ | refine QW (rr_boolne (c := D) Und.eq rfl rfl hD') ?_ | refine QW QL ?_ | refine QW QA ?_ | refine QW (rr_nilc rfl) ?_ | refine QW QlT ?_ | refine QW QlF ?_ | refine QW QgT ?_ | refine QW QgF ?_ | refine QW QeT ?_ | refine QW QeF ?_ | refine QW QnT ?_ | refine QW QnF ?_ | refine QW QaA ?_)
      | refine TW_done ?_)
    clear hD hD' heq hcz hkc
    cases D with
    | true =>
      rw [if_pos rfl]
      repeat (first
        | refine QV QP ?_ | refine QZ ?_ | refine qcT rfl ?_ | refine qcF rfl ?_ | refine E_blockX ?_ | refine E_blockO rfl ?_ | refine QV QL ?_
        | refine QV QA ?_ | refine QV (rr_nilc rfl) ?_ | refine QV QlT ?_ | refine QV QlF ?_ | refine QV QgT ?_ | refine QV QgF ?_ | refine QV QeT ?_
        | refine QV QeF ?_ | refine QV QnT ?_ | refine QV QnF ?_ | refine QV QaA ?_)
      exact E_ret1 rfl rfl fun w hm => hm.meetsB (S := ⟨fun (_ : Unit) => True, fun _ => .int .i64 1, fun _ => [blkO gn #[.int .i64 ((n + 1 : Nat) : Int)] 3]⟩) () trivial [0] (by decide) rfl
    | false =>
      rw [if_neg (by decide)]
      repeat (first
        | refine QV QP ?_ | refine QZ ?_ | refine qcT rfl ?_ | refine qcF rfl ?_ | refine E_blockX ?_ | refine E_blockO rfl ?_
        | refine QV (rr_load1 TyC.ty rfl (at_blk (i := 1) rfl rfl)) ?_ | refine QV QL ?_ | refine QV QA ?_ | refine QV (rr_nilc rfl) ?_ | refine QV QlT ?_
        | refine QV QlF ?_ | refine QV QgT ?_ | refine QV QgF ?_ | refine QV QeT ?_ | refine QV QeF ?_ | refine QV QnT ?_ | refine QV QnF ?_ | refine QV QaA ?_)
      refine T_pick [0] (by decide) rfl ?_
      refine T_loop (ι := Nat × Nat) (fun (j, q) => j ≤ kids.length ∧ q ≤ 100 ∧ chks kids (deep + 1) (n + 1) = chks (kids.drop j) (deep + 1) q) (fun (j, _) => [(1, .int .i64 (deep : Int)), (2, .pointer (some ⟨gn, 0, none⟩)), (40, .slice bk kids.length ck), (41, .int .i64 (kids.length : Int)), (42, .int .i64 (j : Int))])
        (fun (_, q) => [blkO gn #[.int .i64 (q : Int)] 3]) (fun (j, _) => kids.length - j) (0, n + 1) ⟨Nat.zero_le _, by omega, rfl⟩ (by repeat' (first | exact True.intro | refine And.intro rfl ?_)) rfl ?_
      rintro ⟨j, q⟩ ⟨hj, hq, hk⟩
      dsimp only at hj hq hk ⊢
      rw [hk]
      by_cases c4 : j < kids.length
      · obtain ⟨b, off, rfl, _, hr⟩ := hrk (by omega)
        obtain ⟨bj, cj, hrd, hkr⟩ := rkid_at hr c4
        have hd' : kids.drop j = kids[j] :: kids.drop (j + 1) := List.drop_eq_getElem_cons c4
        rw [hd', chks] at hk ⊢
        have hsz := sizesX_mem (List.getElem_mem c4)
        have hle := fun h => chk_le (r := kids[j]'c4) (deep := deep + 1) (n := q) h
        have hat := fun (L : List Own) j v hj => at_oldR (L := L) ho hrd j v hj
        generalize kids[j] = r at *
        generalize r.kids.length = m at *
        repeat (first
          | refine QV QP ?_ | refine QZ ?_ | refine qcT rfl ?_ | refine qcF rfl ?_ | refine E_blockX ?_ | refine E_blockO rfl ?_
          | refine QV (rr_idxc (j := j) Und.eq TyC.ty rfl rfl c4) ?_ | refine QV (rr_loadN TyC.ty rfl rfl (hat _)) ?_ | refine QV QL ?_ | refine QV QA ?_
          | refine QV (rr_nilc rfl) ?_ | refine QV QlT ?_ | refine QV QlF ?_ | refine QV QgT ?_ | refine QV QgF ?_ | refine QV QeT ?_ | refine QV QeF ?_
          | refine QV QnT ?_ | refine QV QnF ?_ | refine QV QaA ?_)
        refine TL_new rfl fun g8 => ?_
        conv => arg 8; simp only [zA, zB, zC, zD, zE, zF, zG, zH, zI, rowS, ret, id_eq]
        refine TL_storeB (i := 1) (cs' := (rexC r.kind r.cls (.slice bj m cj)).toArray) rfl rfl rfl rfl rfl rfl ?_
        conv => arg 8; simp only [zA, zB, zC, zD, zE, zF, zG, zH, zI, rowS, ret, id_eq]
        repeat (first
          | refine QV QP ?_ | refine QZ ?_ | refine qcT rfl ?_ | refine qcF rfl ?_ | refine E_blockX ?_ | refine E_blockO rfl ?_
          | refine QV (rr_loadB (i := 1) TyC.ty rfl rfl rfl) ?_ | refine QV (rr_add64 (r := ((deep + 1 : Nat) : Int)) rfl rfl (by omega) (by omega) (by omega)) ?_
          | refine QV QL ?_ | refine QV QA ?_ | refine QV (rr_nilc rfl) ?_ | refine QV QlT ?_ | refine QV QlF ?_ | refine QV QgT ?_ | refine QV QgF ?_
          | refine QV QeT ?_ | refine QV QeF ?_ | refine QV QnT ?_ | refine QV QnF ?_ | refine QV QaA ?_)
        refine TL_callB [0] [1] (by decide) rfl rfl (he3 EntersC.en rfl rfl rfl rfl) (fun w hm hb => IH r (by omega) _ (deep + 1) q w _ hkr hq (by omega) (ho.on hm (by intro o ho; simp at ho ⊢; simp [ho])) hb) rfl rfl rfl ?_
        intro _ _
        dsimp only
        conv => arg 8; simp only [zA, zB, zC, zD, zE, zF, zG, zH, zI, rowS, ret, id_eq]
        by_cases e1 : (chk r (deep + 1) q).1 = 0
        · rw [if_neg (by simpa using e1)]
          rw [if_neg (by simpa using e1)] at hk
          have hq' := hle e1
          rw [e1]
          generalize (chk r (deep + 1) q).2 = q' at *
          repeat (first
            | refine QV QP ?_ | refine QZ ?_ | refine qcT rfl ?_ | refine qcF rfl ?_ | refine E_blockX ?_ | refine E_blockO rfl ?_ | refine QV QL ?_
            | refine QV QA ?_ | refine QV (rr_nilc rfl) ?_ | refine QV QlT ?_ | refine QV QlF ?_ | refine QV QgT ?_ | refine QV QgF ?_ | refine QV QeT ?_
            | refine QV QeF ?_ | refine QV QnT ?_ | refine QV QnF ?_ | refine QV QaA ?_)
          refine E_pick [1] (by decide) rfl ?_
          exact E_round (j + 1, q') ⟨by show j + 1 ≤ kids.length; omega, hq', rfl⟩ (by show kids.length - (j + 1) < kids.length - j; omega) (by repeat' (first | exact True.intro | refine And.intro rfl ?_)) rfl
        · rw [if_pos e1]
          generalize chk r (deep + 1) q = z at *
          repeat (first
            | refine QV QP ?_ | refine QZ ?_ | refine qcT rfl ?_ | refine qcF rfl ?_ | refine E_blockX ?_ | refine E_blockO rfl ?_
            | refine QV (rr_neq (b := true) rfl rfl (decide_eq_true e1)) ?_ | refine QV QL ?_ | refine QV QA ?_ | refine QV (rr_nilc rfl) ?_ | refine QV QlT ?_
            | refine QV QlF ?_ | refine QV QgT ?_ | refine QV QgF ?_ | refine QV QeT ?_ | refine QV QeF ?_ | refine QV QnT ?_ | refine QV QnF ?_ | refine QV QaA ?_)
          exact E_ret1 rfl rfl fun w hm => hm.meetsB (S := ⟨fun (_ : Unit) => True, fun _ => .int .i64 z.1, fun _ => [blkO gn #[.int .i64 (z.2 : Int)] 3]⟩) () trivial [1] (by decide) rfl
      · obtain rfl : j = kids.length := by omega
        rw [List.drop_length, chks] at hk ⊢
        repeat (first
          | refine QV QP ?_ | refine QZ ?_ | refine qcT rfl ?_ | refine qcF rfl ?_ | refine E_blockX ?_ | refine E_blockO rfl ?_ | refine QV QL ?_
          | refine QV QA ?_ | refine QV (rr_nilc rfl) ?_ | refine QV QlT ?_ | refine QV QlF ?_ | refine QV QgT ?_ | refine QV QgF ?_ | refine QV QeT ?_
          | refine QV QeF ?_ | refine QV QnT ?_ | refine QV QnF ?_ | refine QV QaA ?_)
        exact E_ret1 rfl rfl fun w hm => hm.meetsB (S := ⟨fun (_ : Unit) => True, fun _ => .int .i64 0, fun _ => [blkO gn #[.int .i64 (q : Int)] 3]⟩) () trivial [0] (by decide) rfl
/-- what Check says -/
def chkX (r : Rx) : Int := (chk r 1 0).1
set_option maxHeartbeats 4000000 in
theorem rexCheck_calls (v : Value) (r : Rx) (w : World) (hv : RexR (Low w) w v r) : Calls Try.prog 39 #[v] w (Meets (ret (.int .i64 (chkX r))) w) := by
  have hc := fun gn w' B ho hm => check_calls w gn _ r (Nat.le_refl _) v 1 0 w' B hv (by omega) (by omega) ho hm
  obtain ⟨vk, rfl, _, hs⟩ := hv
  obtain ⟨bk, ck, rfl, -⟩ := hs
  generalize r.kids.length = m at *
  refine enter (args := [rexV r.kind r.cls (.slice bk m ck)]) (n := 6) Try.func39 rfl rfl rfl ?_
  refine T_seq (T_region (TL_box rfl rfl rfl fun g1 => ?_))
  repeat (first
    | refine QV QP ?_ | refine QZ ?_)
  refine TL_new rfl fun g3 => ?_
  conv => arg 8; simp only [zA, zB, zC, zD, zE, zF, zG, zH, zI, rowS, ret, id_eq]
  refine TL_store1 (i := 1) rfl rfl rfl rfl rfl rfl ?_
  conv => arg 8; simp only [zA, zB, zC, zD, zE, zF, zG, zH, zI, rowS, ret, id_eq]
  repeat (first
    | refine QV QP ?_ | refine QZ ?_ | refine QV (rr_loadB (i := 0) TyC.ty rfl rfl rfl) ?_)
  refine TL_callB [1] [0] (by decide) rfl rfl (he3 EntersC.en rfl rfl rfl rfl) (fun w hm hb => hc g3 w _ ((Old.self _).on hm (by intro o ho; simp at ho ⊢; simp [ho])) hb) rfl rfl rfl ?_
  intro _ _
  dsimp only
  unfold chkX
  repeat (first
    | refine QV QP ?_ | refine QZ ?_)
  exact E_ret1 rfl rfl fun w hm => hm.ret
end Go.Proofs.Ytkmemlnkijinlaa.eng

/- PlM -/
namespace Go.Proofs.Ytkmemlnkijinlaa.eng
open Go.RowKit kit mix classL rexL placesL
theorem build_posz (w : World) : (Instr.build 84 (#[] : Array (Nat × Value))).run Try.prog w = .ok (.agg #[.slice none 0 0, .slice none 0 0, .slice none 0 0, .slice none 0 0, .slice none 0 0, .slice none 0 0]) w := by
  go_simp
theorem build_mkz (w : World) : (Instr.build 102 (#[] : Array (Nat × Value))).run Try.prog w = .ok (.agg #[.slice none 0 0, .slice none 0 0, .slice none 0 0, .slice none 0 0, .slice none 0 0, .slice none 0 0, .int .i64 0]) w := by
  go_simp
/-- what Make hands back -/
structure PIx where
  vc : Value
  vr : Value
  vf : Value
  vfol : Value
  vl : Value
  ve : Value
  vs : List Value
  F : Nat → Prop
def posL (x : PIx) (m : MS) : List Own :=
  [rowO 60 4 x.vc m.ps.classes.length (m.ps.classes.flatMap clsL), intR x.vr m.ps.rules, intR x.vf m.first, folR x.vfol x.vs, folE x.F x.vs m.ps.follow, rowO 4 1 x.vl m.ps.last.length (m.ps.last.map Value.bool), rowO 4 1 x.ve m.empty.length (m.empty.map Value.bool)]
def posC (x : PIx) : Array Value := #[x.vc, x.vr, x.vf, x.vfol, x.vl, x.ve]
def makeSp (R : Int × MS) : Spec PIx := ⟨fun x => x.vs.length = R.2.ps.follow.length, fun x => .tuple #[.agg (posC x), .int .i64 R.1], fun x => posL x R.2⟩
def nilP : PIx := ⟨.slice none 0 0, .slice none 0 0, .slice none 0 0, .slice none 0 0, .slice none 0 0, .slice none 0 0, [], fun _ => False⟩
/-- nothing, as what Make hands back -/
theorem E_zero {n : Nat} {W : Base} {Q : Exit → Act → World → Prop} {fr : Fr} {L : List Own} {e' : Exit} (h : E n W e' Q fr (L ++ posL nilP .zero)) : E n W e' Q fr L := by
  refine E_nilrow 60 4 (E_nilrow 3 1 (E_nilrow 3 1 (E_nilrow 24 1 (E_extra (folE (fun _ => False) [] []) (fun k hk => hk.elim (fun h => by cases h) id) (fun w => els_nil) (E_nilrow 4 1 (E_nilrow 4 1 ?_))))))
  simp only [List.append_assoc, List.cons_append, List.nil_append]
  exact h
theorem posn_at {vc vr vf vfol vl ve v : Value} {rule : Int} {j : Nat} (h : [vc, vr, vf, vfol, vl, ve][j]? = some v) : (mkC vc vr vf vfol vl ve rule)[0 + j]? = some v := by
  rw [Nat.zero_add]
  match j, h with
  | 0, h => exact h
  | 1, h => exact h
  | 2, h => exact h
  | 3, h => exact h
  | 4, h => exact h
  | 5, h => exact h
def boolC (b : Bool) : List Value := [.bool b]
theorem boolC_len (b : Bool) : (boolC b).length = 1 := rfl
theorem bool_flat (l : List Bool) : l.flatMap boolC = l.map Value.bool := by
  induction l with
  | nil => rfl
  | cons x r ih => rw [List.flatMap_cons, ih]; rfl
def MakeR (rs : List Rx) (R : Int × MS) : Prop :=
  ((rs.length = 0 ∨ 20 < rs.length) ∧ R = (1, .zero)) ∨ (¬ (rs.length = 0 ∨ 20 < rs.length) ∧ checkM rs ≠ 0 ∧ R = (checkM rs, .zero)) ∨
    (¬ (rs.length = 0 ∨ 20 < rs.length) ∧ checkM rs = 0 ∧ ∃ es : List Re, rs = es.map emb ∧ (∀ e ∈ es, e.size ≤ 100) ∧ R = loopM 0 .zero es)
theorem check_drop {l : List Rx} {k : Nat} (h : k < l.length) : checkM (l.drop k) = if chkR l[k] ≠ 0 then chkR l[k] else checkM (l.drop (k + 1)) := by
  rw [List.drop_eq_getElem_cons h, checkM]
set_option maxHeartbeats 16000000 in
theorem make_calls (v : Value) (rs : List Rx) (R : Int × MS) (w : World) (hv : SlF rexS (Low w) w v rs) (hR : MakeR rs R) :
    Calls Try.prog 33 #[v] w (Meets (makeSp R) w) := by
  obtain ⟨bk, ck, rfl, h1, h2, h3⟩ := hv
  unfold maxLen at h2
  refine enter (args := [.slice bk rs.length ck]) (n := 104) Try.func33 rfl rfl rfl ?_
  refine T_seq (T_region (TL_new rfl fun g2 => ?_))
  conv => arg 8; simp only [zA, zB, zC, zD, zE, zF, zG, zH, zI, rowS, ret, id_eq]
  rcases hR with ⟨c1, rfl⟩ | hR
  · by_cases c2 : rs.length = 0
    · repeat (first
        | refine QV QP ?_ | refine QZ ?_ | refine qcT rfl ?_ | refine qcF rfl ?_ | refine E_blockX ?_ | refine E_blockO rfl ?_
        | refine qs rfl rfl rfl rfl rfl rfl ?_
        | ((try refine qg rfl rfl rfl ?_); first | refine QV QP ?_ | refine QV (rr_eql (b := true) rfl rfl (decide_eq_true (by omega))) ?_ | refine QV (rr_build rfl build_posz) ?_ | refine QV QL ?_ | refine QV QA ?_ | refine QV (rr_nilc rfl) ?_ | refine QV QlT ?_ | refine QV QlF ?_ | refine QV QgT ?_ | refine QV QgF ?_ | refine QV QeT ?_ | refine QV QeF ?_ | refine QV QnT ?_ | refine QV QnF ?_ | refine QV QaA ?_))
      refine TL_storeB (i := 0) rfl rfl rfl rfl rfl rfl ?_
      conv => arg 8; simp only [zA, zB, zC, zD, zE, zF, zG, zH, zI, rowS, ret, id_eq]
      repeat (first
        | refine QV QP ?_ | refine QZ ?_ | refine qcT rfl ?_ | refine qcF rfl ?_ | refine E_blockX ?_ | refine E_blockO rfl ?_
        | refine qs rfl rfl rfl rfl rfl rfl ?_
        | ((try refine qg rfl rfl rfl ?_); first | refine QV QP ?_ | refine QV QL ?_ | refine QV QA ?_ | refine QV (rr_nilc rfl) ?_ | refine QV QlT ?_ | refine QV QlF ?_ | refine QV QgT ?_ | refine QV QgF ?_ | refine QV QeT ?_ | refine QV QeF ?_ | refine QV QnT ?_ | refine QV QnF ?_ | refine QV QaA ?_))
      refine E_zero ?_
      exact E_retc2 (i := 0) rfl rfl rfl rfl rfl fun w hm => hm.meets (S := makeSp (1, .zero)) nilP rfl [1, 2, 3, 4, 5, 6, 7] (by decide) rfl
    · have c3 : 20 < rs.length := c1.resolve_left c2
      repeat (first
        | refine QV QP ?_ | refine QZ ?_ | refine qcT rfl ?_ | refine qcF rfl ?_ | refine E_blockX ?_ | refine E_blockO rfl ?_
        | refine qs rfl rfl rfl rfl rfl rfl ?_
        | ((try refine qg rfl rfl rfl ?_); first | refine QV QP ?_ | refine QV (rr_eql (b := false) rfl rfl (decide_eq_false (by omega))) ?_ | refine QV (rr_gtr (b := true) rfl rfl (decide_eq_true (by omega))) ?_ | refine QV (rr_build rfl build_posz) ?_ | refine QV QL ?_ | refine QV QA ?_ | refine QV (rr_nilc rfl) ?_ | refine QV QlT ?_ | refine QV QlF ?_ | refine QV QgT ?_ | refine QV QgF ?_ | refine QV QeT ?_ | refine QV QeF ?_ | refine QV QnT ?_ | refine QV QnF ?_ | refine QV QaA ?_))
      refine TL_storeB (i := 0) rfl rfl rfl rfl rfl rfl ?_
      conv => arg 8; simp only [zA, zB, zC, zD, zE, zF, zG, zH, zI, rowS, ret, id_eq]
      repeat (first
        | refine QV QP ?_ | refine QZ ?_ | refine qcT rfl ?_ | refine qcF rfl ?_ | refine E_blockX ?_ | refine E_blockO rfl ?_
        | refine qs rfl rfl rfl rfl rfl rfl ?_
        | ((try refine qg rfl rfl rfl ?_); first | refine QV QP ?_ | refine QV QL ?_ | refine QV QA ?_ | refine QV (rr_nilc rfl) ?_ | refine QV QlT ?_ | refine QV QlF ?_ | refine QV QgT ?_ | refine QV QgF ?_ | refine QV QeT ?_ | refine QV QeF ?_ | refine QV QnT ?_ | refine QV QnF ?_ | refine QV QaA ?_))
      refine E_zero ?_
      exact E_retc2 (i := 0) rfl rfl rfl rfl rfl fun w hm => hm.meets (S := makeSp (1, .zero)) nilP rfl [1, 2, 3, 4, 5, 6, 7] (by decide) rfl
  have hlen : ¬ (rs.length = 0 ∨ 20 < rs.length) := by rcases hR with ⟨h, _⟩ | ⟨h, _⟩ <;> exact h
  repeat (first
    | refine QV QP ?_ | refine QZ ?_ | refine qcT rfl ?_ | refine qcF rfl ?_ | refine E_blockX ?_ | refine E_blockO rfl ?_
    | refine qs rfl rfl rfl rfl rfl rfl ?_
    | ((try refine qg rfl rfl rfl ?_); first | refine QV QP ?_ | refine QV (rr_eql (b := false) rfl rfl (decide_eq_false (by omega))) ?_ | refine QV (rr_gtr (b := false) rfl rfl (decide_eq_false (by omega))) ?_ | refine QV QL ?_ | refine QV QA ?_ | refine QV (rr_nilc rfl) ?_ | refine QV QlT ?_ | refine QV QlF ?_ | refine QV QgT ?_ | refine QV QgF ?_ | refine QV QeT ?_ | refine QV QeF ?_ | refine QV QnT ?_ | refine QV QnF ?_ | refine QV QaA ?_))
  refine T_loop (ι := Nat) (fun k => k ≤ rs.length ∧ checkM rs = checkM (rs.drop k)) (fun k => [(0, .slice bk rs.length ck), (2, .pointer (some ⟨g2, 0, none⟩)), (22, .slice bk rs.length ck), (23, .int .i64 rs.length), (24, .int .i64 (k : Int))])
    (fun _ => [blkO g2 #[.slice none 0 0, .slice none 0 0, .slice none 0 0, .slice none 0 0, .slice none 0 0, .slice none 0 0] 84]) (fun k => rs.length - k) 0 ⟨Nat.zero_le _, rfl⟩ (by repeat' (first | exact True.intro | refine And.intro rfl ?_)) rfl ?_
  rintro k ⟨i1, i2⟩
  by_cases c6 : k < rs.length
  · obtain ⟨b, off, rfl, hF, hrd⟩ := h3 (by omega)
    obtain ⟨kb, kc, hr, hkid⟩ := rkid_at hrd c6
    have hat := fun (L : List Own) (j : Nat) (v : Value) (hj : (rexC rs[k].kind rs[k].cls (.slice kb rs[k].kids.length kc))[j]? = some v) => at_rd (L := L) hr hj
    have hck : ∀ w', Gr w w' → Calls Try.prog 39 #[rexV rs[k].kind rs[k].cls (.slice kb rs[k].kids.length kc)] w' (Meets (ret (.int .i64 (chkR rs[k]))) w') := fun w' hg => rexCheck_calls _ _ w' (hkid.gr hg)
    have hdr := check_drop c6
    clear h3 hrd hr
    generalize rs[k] = r at *
    repeat (first
      | refine QV QP ?_ | refine QZ ?_ | refine qcT rfl ?_ | refine qcF rfl ?_ | refine E_blockX ?_ | refine E_blockO rfl ?_
      | refine qs rfl rfl rfl rfl rfl rfl ?_
      | ((try refine qg rfl rfl rfl ?_); first | refine QV QP ?_ | refine QV (rr_idxc Und.eq TyC.ty rfl rfl c6) ?_ | refine QV (rr_loadN TyC.ty rfl rfl (hat _)) ?_ | refine QV QL ?_ | refine QV QA ?_ | refine QV (rr_nilc rfl) ?_ | refine QV QlT ?_ | refine QV QlF ?_ | refine QV QgT ?_ | refine QV QgF ?_ | refine QV QeT ?_ | refine QV QeF ?_ | refine QV QnT ?_ | refine QV QnF ?_ | refine QV QaA ?_))
    refine TL_new rfl fun g5 => ?_
    conv => arg 8; simp only [zA, zB, zC, zD, zE, zF, zG, zH, zI, rowS, ret, id_eq]
    refine TL_storeB (i := 1) (cs' := (rexC r.kind r.cls (.slice kb r.kids.length kc)).toArray) rfl rfl rfl rfl rfl rfl ?_
    conv => arg 8; simp only [zA, zB, zC, zD, zE, zF, zG, zH, zI, rowS, ret, id_eq]
    repeat (first
      | refine QV QP ?_ | refine QZ ?_ | refine qcT rfl ?_ | refine qcF rfl ?_ | refine E_blockX ?_ | refine E_blockO rfl ?_
      | refine qs rfl rfl rfl rfl rfl rfl ?_
      | ((try refine qg rfl rfl rfl ?_); first | refine QV QP ?_ | refine QV (rr_loadB (i := 1) TyC.ty rfl rfl rfl) ?_ | refine QV QL ?_ | refine QV QA ?_ | refine QV (rr_nilc rfl) ?_ | refine QV QlT ?_ | refine QV QlF ?_ | refine QV QgT ?_ | refine QV QgF ?_ | refine QV QeT ?_ | refine QV QeF ?_ | refine QV QnT ?_ | refine QV QnF ?_ | refine QV QaA ?_))
    refine TL_call (he1 EntersC.en rfl rfl) (fun w hm => hck _ hm.below) rfl rfl rfl ?_
    intro _ _
    conv => arg 8; simp only [zA, zB, zC, zD, zE, zF, zG, zH, zI, rowS, ret, id_eq]
    by_cases c7 : chkR r = 0
    · repeat (first
        | refine QV QP ?_ | refine QZ ?_ | refine qcT rfl ?_ | refine qcF rfl ?_ | refine E_blockX ?_ | refine E_blockO rfl ?_
        | refine qs rfl rfl rfl rfl rfl rfl ?_
        | ((try refine qg rfl rfl rfl ?_); first | refine QV QP ?_ | refine QV (rr_neq (b := false) rfl rfl (decide_eq_false (by simpa using c7))) ?_ | refine QV QL ?_ | refine QV QA ?_ | refine QV (rr_nilc rfl) ?_ | refine QV QlT ?_ | refine QV QlF ?_ | refine QV QgT ?_ | refine QV QgF ?_ | refine QV QeT ?_ | refine QV QeF ?_ | refine QV QnT ?_ | refine QV QnF ?_ | refine QV QaA ?_))
      refine E_pick [0] (by decide) rfl ?_
      exact E_round (k + 1) ⟨by omega, by rw [i2, hdr, if_neg (by simpa using c7)]⟩ (by show rs.length - (k + 1) < rs.length - k; omega) (by repeat' (first | exact True.intro | refine And.intro rfl ?_)) rfl
    · have hne : checkM rs ≠ 0 := by rw [i2, hdr, if_pos c7]; exact c7
      rcases hR with ⟨_, _, rfl⟩ | ⟨_, h0, _⟩
      · rw [i2, hdr, if_pos c7]
        repeat (first
          | refine QV QP ?_ | refine QZ ?_ | refine qcT rfl ?_ | refine qcF rfl ?_ | refine E_blockX ?_ | refine E_blockO rfl ?_
          | refine qs rfl rfl rfl rfl rfl rfl ?_
          | ((try refine qg rfl rfl rfl ?_); first | refine QV QP ?_ | refine QV (rr_neq (b := true) rfl rfl (decide_eq_true c7)) ?_ | refine QV (rr_build rfl build_posz) ?_ | refine QV QL ?_ | refine QV QA ?_ | refine QV (rr_nilc rfl) ?_ | refine QV QlT ?_ | refine QV QlF ?_ | refine QV QgT ?_ | refine QV QgF ?_ | refine QV QeT ?_ | refine QV QeF ?_ | refine QV QnT ?_ | refine QV QnF ?_ | refine QV QaA ?_))
        refine TL_storeB (i := 0) rfl rfl rfl rfl rfl rfl ?_
        conv => arg 8; simp only [zA, zB, zC, zD, zE, zF, zG, zH, zI, rowS, ret, id_eq]
        repeat (first
          | refine QV QP ?_ | refine QZ ?_ | refine qcT rfl ?_ | refine qcF rfl ?_ | refine E_blockX ?_ | refine E_blockO rfl ?_
          | refine qs rfl rfl rfl rfl rfl rfl ?_
          | ((try refine qg rfl rfl rfl ?_); first | refine QV QP ?_ | refine QV QL ?_ | refine QV QA ?_ | refine QV (rr_nilc rfl) ?_ | refine QV QlT ?_ | refine QV QlF ?_ | refine QV QgT ?_ | refine QV QgF ?_ | refine QV QeT ?_ | refine QV QeF ?_ | refine QV QnT ?_ | refine QV QnF ?_ | refine QV QaA ?_))
        refine E_zero ?_
        exact E_retc2 (i := 0) rfl rfl rfl rfl rfl fun w hm => hm.meets (S := makeSp (chkR r, .zero)) nilP rfl [2, 3, 4, 5, 6, 7, 8] (by decide) rfl
      · exact absurd h0 hne
  · obtain rfl : k = rs.length := by omega
    have h0 : checkM rs = 0 := by rw [i2, List.drop_eq_nil_of_le (Nat.le_refl _)]; rfl
    obtain ⟨es, rfl, hsz, rfl⟩ : ∃ es : List Re, rs = es.map emb ∧ (∀ e ∈ es, e.size ≤ 100) ∧ R = loopM 0 .zero es := by
      rcases hR with ⟨_, h, _⟩ | ⟨_, _, h⟩
      · exact absurd h0 h
      · exact h
    have h20 : (List.map emb es).length ≤ 20 := by omega
    clear hR hlen i1 i2
    repeat (first
      | refine QV QP ?_ | refine QZ ?_ | refine qcT rfl ?_ | refine qcF rfl ?_ | refine E_blockX ?_ | refine E_blockO rfl ?_
      | refine qs rfl rfl rfl rfl rfl rfl ?_
      | ((try refine qg rfl rfl rfl ?_); first | refine QV QP ?_ | refine QV (rr_build rfl build_mkz) ?_ | refine QV QL ?_ | refine QV QA ?_ | refine QV (rr_nilc rfl) ?_ | refine QV QlT ?_ | refine QV QlF ?_ | refine QV QgT ?_ | refine QV QgF ?_ | refine QV QeT ?_ | refine QV QeF ?_ | refine QV QnT ?_ | refine QV QnF ?_ | refine QV QaA ?_))
    refine TL_box rfl rfl rfl fun g7 => ?_
    conv => arg 8; simp only [zA, zB, zC, zD, zE, zF, zG, zH, zI, rowS, ret, id_eq]
    repeat (first
      | refine QV QP ?_ | refine QZ ?_ | refine qcT rfl ?_ | refine qcF rfl ?_ | refine E_blockX ?_ | refine E_blockO rfl ?_
      | refine qs rfl rfl rfl rfl rfl rfl ?_
      | ((try refine qg rfl rfl rfl ?_); first | refine QV QP ?_ | refine QV QL ?_ | refine QV QA ?_ | refine QV (rr_nilc rfl) ?_ | refine QV QlT ?_ | refine QV QlF ?_ | refine QV QgT ?_ | refine QV QgF ?_ | refine QV QeT ?_ | refine QV QeF ?_ | refine QV QnT ?_ | refine QV QnF ?_ | refine QV QaA ?_))
    refine T_nil 60 4 (T_nil 3 1 (T_nil 24 1 (T_extra (folE (fun _ => False) [] []) (fun k hk => hk.elim (fun h => by cases h) id) (fun w => els_nil) (T_nil 4 1 (T_nil 3 1 (T_nil 4 1 ?_))))))
    refine T_loop (ι := Nat × MS × MIx × Value × Value × Int) (fun (k, m, x, _, _, _) => k ≤ es.length ∧ loopM 0 .zero es = loopM k m (es.drop k) ∧ MSOk m ∧ m.ps.classes.length ≤ 200 ∧ x.vs.length = m.ps.follow.length ∧ m.empty.length = k) (fun (k, _, _, _, _, _) => [(2, .pointer (some ⟨g2, 0, none⟩)), (7, .pointer (some ⟨g7, 0, none⟩)), (37, .slice bk (es.map emb).length ck), (38, .int .i64 (es.map emb).length), (39, .int .i64 (k : Int))])
      (fun (_, m, x, vf, ve, rule) => [blkO g2 #[.slice none 0 0, .slice none 0 0, .slice none 0 0, .slice none 0 0, .slice none 0 0, .slice none 0 0] 84] ++ mkL g7 vf ve rule x m.ps ++ [intR vf m.first, rowO 4 1 ve m.empty.length (m.empty.map Value.bool)]) (fun (k, _, _, _, _, _) => es.length - k)
      (0, .zero, ⟨.slice none 0 0, .slice none 0 0, .slice none 0 0, .slice none 0 0, [], fun _ => False⟩, .slice none 0 0, .slice none 0 0, 0) ⟨Nat.zero_le _, rfl, zero_ok, Nat.zero_le _, rfl, rfl⟩ (by repeat' (first | exact True.intro | refine And.intro rfl ?_)) rfl ?_
    rintro ⟨k, m, ⟨vc, vr, vfol, vl, vs, F⟩, vf, ve, rule⟩ ⟨i1, i2, i3, i4, i5, i6⟩
    dsimp only at i1 i2 i3 i4 i5 i6 ⊢
    conv => arg 7; simp only [zA, zB, zC, zD, zE, zF, zG, zH, zI, rowS, ret, id_eq, mkL]
    have hml : (List.map emb es).length = es.length := List.length_map ..
    by_cases c6 : k < es.length
    · obtain ⟨b, off, rfl, hF, hrd⟩ := h3 (by omega)
      obtain ⟨kb, kc, hr, hkid⟩ := rkid_at (k := k) hrd (by omega)
      have hat := fun (L : List Own) (j : Nat) (v : Value) (hj : (rexC (es.map emb)[k].kind (es.map emb)[k].cls (.slice kb (es.map emb)[k].kids.length kc))[j]? = some v) => at_rd (L := L) hr hj
      have hke : (es.map emb)[k]'(by omega) = emb es[k] := List.getElem_map ..
      rw [hke] at hat hkid
      have hse := hsz es[k] (List.getElem_mem c6)
      rw [List.drop_eq_getElem_cons c6, loopM] at i2
      clear h3 hrd hr hke
      generalize es[k] = e at *
      have hst := step_ok k i3 e
      have hnd := node_ok k e m.ps i3.ps
      have hno := fun v w B hv hm => node_at 100 e hse g7 vf ve k m.ps ⟨vc, vr, vfol, vl, vs, F⟩ v w B i3.ps i5 (by omega) ⟨by omega, by omega⟩ hv hm
      repeat (first
        | refine QV QP ?_ | refine QZ ?_ | refine qcT rfl ?_ | refine qcF rfl ?_ | refine E_blockX ?_ | refine E_blockO rfl ?_
        | refine qs rfl rfl rfl rfl rfl rfl ?_
        | ((try refine qg rfl rfl rfl ?_); first | refine QV QP ?_ | refine QV (rr_idxc Und.eq TyC.ty rfl rfl (by omega)) ?_ | refine QV (rr_loadN TyC.ty rfl rfl (hat _)) ?_ | refine QV QL ?_ | refine QV QA ?_ | refine QV (rr_nilc rfl) ?_ | refine QV QlT ?_ | refine QV QlF ?_ | refine QV QgT ?_ | refine QV QgF ?_ | refine QV QeT ?_ | refine QV QeF ?_ | refine QV QnT ?_ | refine QV QnF ?_ | refine QV QaA ?_))
      refine TL_new rfl fun g9 => ?_
      conv => arg 8; simp only [zA, zB, zC, zD, zE, zF, zG, zH, zI, rowS, ret, id_eq]
      repeat (first
        | refine QV QP ?_ | refine QZ ?_ | refine qcT rfl ?_ | refine qcF rfl ?_ | refine E_blockX ?_ | refine E_blockO rfl ?_
        | refine qs rfl rfl rfl rfl rfl rfl ?_
        | ((try refine qg rfl rfl rfl ?_); first | refine QV QP ?_ | refine QV QL ?_ | refine QV QA ?_ | refine QV (rr_nilc rfl) ?_ | refine QV QlT ?_ | refine QV QlF ?_ | refine QV QgT ?_ | refine QV QgF ?_ | refine QV QeT ?_ | refine QV QeF ?_ | refine QV QnT ?_ | refine QV QnF ?_ | refine QV QaA ?_))
      refine TL_storeB (i := 9) (cs' := (rexC (emb e).kind (emb e).cls (.slice kb (emb e).kids.length kc)).toArray) rfl rfl rfl rfl rfl rfl ?_
      conv => arg 8; simp only [zA, zB, zC, zD, zE, zF, zG, zH, zI, rowS, ret, id_eq]
      repeat (first
        | refine QV QP ?_ | refine QZ ?_ | refine qcT rfl ?_ | refine qcF rfl ?_ | refine E_blockX ?_ | refine E_blockO rfl ?_
        | refine qs rfl rfl rfl rfl rfl rfl ?_
        | ((try refine qg rfl rfl rfl ?_); first | refine QV QP ?_ | refine QV (rr_nilc rfl) ?_ | refine QV QL ?_ | refine QV QA ?_ | refine QV (rr_nilc rfl) ?_ | refine QV QlT ?_ | refine QV QlF ?_ | refine QV QgT ?_ | refine QV QgF ?_ | refine QV QeT ?_ | refine QV QeF ?_ | refine QV QnT ?_ | refine QV QnF ?_ | refine QV QaA ?_))
      refine TL_store1 (i := 1) rfl rfl rfl rfl rfl rfl ?_
      conv => arg 8; simp only [zA, zB, zC, zD, zE, zF, zG, zH, zI, rowS, ret, id_eq]
      repeat (first
        | refine QV QP ?_ | refine QZ ?_ | refine qcT rfl ?_ | refine qcF rfl ?_ | refine E_blockX ?_ | refine E_blockO rfl ?_
        | refine qs rfl rfl rfl rfl rfl rfl ?_
        | ((try refine qg rfl rfl rfl ?_); first | refine QV QP ?_ | refine QV (rr_loadB (i := 9) TyC.ty rfl rfl rfl) ?_ | refine QV QL ?_ | refine QV QA ?_ | refine QV (rr_nilc rfl) ?_ | refine QV QlT ?_ | refine QV QlF ?_ | refine QV QgT ?_ | refine QV QgF ?_ | refine QV QeT ?_ | refine QV QeF ?_ | refine QV QnT ?_ | refine QV QnF ?_ | refine QV QaA ?_))
      refine TL_callB [1, 2, 3, 4, 5, 6] [0, 7, 8, 9] (by decide) rfl rfl (he2 EntersC.en rfl rfl rfl) (fun w hm hb => hno _ w _ (rex_on (hm.pick [1, 2, 3, 4, 5, 6] (by decide) rfl) (hkid.mono fun k hk => ⟨hk, id⟩)) hb) rfl rfl rfl ?_
      rintro ⟨⟨vc', vr', vfol', vl', vs', F'⟩, va, vb⟩ hx'
      conv => arg 8; simp only [zA, zB, zC, zD, zE, zF, zG, zH, zI, rowS, ret, id_eq, nodeSp, mkL]
      conv => arg 7; simp only [nodeSp]
      have hx' : vs'.length = (nodeF k e m.ps).2.follow.length := hx'
      unfold stepM at i2 hst
      generalize nodeF k e m.ps = R at *
      obtain ⟨⟨em, first, last⟩, p'⟩ := R
      dsimp only at i2 hst hnd hx' ⊢
      obtain ⟨n1, n2, n3, n4, n5⟩ := hnd
      have hl1 := ris_len i3.first
      have hl2 := ris_len n4
      have hl3 := ris_len n5
      refine TL_slv (i := 10) rfl fun _ qa => TL_slv (i := 11) rfl fun _ qb => TL_new rfl fun g10 => ?_
      conv => arg 8; simp only [zA, zB, zC, zD, zE, zF, zG, zH, zI, rowS, ret, id_eq]
      refine TL_storeB (i := 12) (cs' := #[.bool em, va, vb]) rfl rfl rfl rfl (by simp only [List.all_cons, List.all_nil, qa, qb]; rfl) rfl ?_
      conv => arg 8; simp only [zA, zB, zC, zD, zE, zF, zG, zH, zI, rowS, ret, id_eq]
      repeat (first
        | refine QV QP ?_ | refine QZ ?_ | refine qcT rfl ?_ | refine qcF rfl ?_ | refine E_blockX ?_ | refine E_blockO rfl ?_
        | refine qs rfl rfl rfl rfl rfl rfl ?_
        | ((try refine qg rfl rfl rfl ?_); first | refine QV QP ?_ | refine QV QL ?_ | refine QV QA ?_ | refine QV (rr_nilc rfl) ?_ | refine QV QlT ?_ | refine QV QlF ?_ | refine QV QgT ?_ | refine QV QgF ?_ | refine QV QeT ?_ | refine QV QeF ?_ | refine QV QnT ?_ | refine QV QnF ?_ | refine QV QaA ?_))
      (repeat refine T_seq ?_)
      refine T_midq (ι := Value) (fun vf' => vf'.oneCell' = true) (fun _ => [(2, .pointer (some ⟨g2, 0, none⟩)), (7, .pointer (some ⟨g7, 0, none⟩)), (10, .pointer (some ⟨g10, 0, none⟩)), (37, .slice (some ⟨b, off, none⟩) (es.map emb).length ck), (38, .int .i64 (es.map emb).length), (39, .int .i64 (k : Int))])
        (fun vf' => [blkO g2 #[.slice none 0 0, .slice none 0 0, .slice none 0 0, .slice none 0 0, .slice none 0 0, .slice none 0 0] 84, blkO g7 (mkC vc' vr' vf' vfol' vl' ve (k : Int)) 102, rowO 60 4 vc' p'.classes.length (p'.classes.flatMap clsL), intR vr' p'.rules, folR vfol' vs', folE F' vs' p'.follow, rowO 4 1 vl' p'.last.length (p'.last.map Value.bool), intR vf' (uni m.first first), rowO 4 1 ve m.empty.length (m.empty.map Value.bool), blkO g10 #[.bool em, va, vb] 104, intR vb last]) ?_ ?_
      · refine T_ord ([blkO g10 #[.bool em, va, vb] 104]) (.calm 0 (.calm 1 (.calm 2 (.calm 3 (.calm 4 (.calm 6 (.calm 7 (.one 5 (.one 8 (.calm 9 (.calm 10 (.calm 11 (.one 12 (.done)))))))))))))) (sub_pick [12] (by decide) rfl) (by kernel_rfl) (by kernel_rfl) (by intro c a d v w h; cases d <;> exact h) ?_
        repeat (first
          | ((first | refine TW_plain rfl rfl ?_ | refine TW_gmet rfl rfl rfl rfl ?_); first | refine QW QP ?_ | refine QW (rr_nilc rfl) ?_ | refine QW (rr_load1 TyC.ty rfl (at_blk (i := 0) rfl rfl)) ?_ | refine QW QL ?_ | refine QW QA ?_ | refine QW (rr_nilc rfl) ?_ | refine QW QlT ?_ | refine QW QlF ?_ | refine QW QgT ?_ | refine QW QgF ?_ | refine QW QeT ?_ | refine QW QeF ?_ | refine QW QnT ?_ | refine QW QnF ?_ | refine QW QaA ?_)
          | refine TW_skip rfl rfl rfl rfl rfl rfl rfl ?_ | refine TW_done ?_)
        refine TW_one rfl (TL_val (rr_load1 (v := vf) TyC.ty rfl (at_blk (i := 4) rfl rfl)) rfl rfl rfl (TW_on (sub_pick [12] (by decide) rfl) ?_))
        refine TW_one rfl (TL_call (he2 EntersC.en rfl rfl rfl) (fun w' hm => union_calls vf va m.first first w' (Sl.of_own (hm.get (i := 1) rfl)) (Sl.of_own (hm.get (i := 10) rfl)) (by omega) (by omega)) rfl rfl rfl ?_)
        intro vf' _
        conv => arg 8; simp only [zA, zB, zC, zD, zE, zF, zG, zH, zI, rowS, ret, id_eq, intRS]
        refine TW_on (sub_pick [12] (by decide) rfl) ?_
        repeat (first
          | ((first | refine TW_plain rfl rfl ?_ | refine TW_gmet rfl rfl rfl rfl ?_); first | refine QW QP ?_ | refine QW (rr_nilc rfl) ?_ | refine QW QL ?_ | refine QW QA ?_ | refine QW (rr_nilc rfl) ?_ | refine QW QlT ?_ | refine QW QlF ?_ | refine QW QgT ?_ | refine QW QgF ?_ | refine QW QeT ?_ | refine QW QeF ?_ | refine QW QnT ?_ | refine QW QnF ?_ | refine QW QaA ?_)
          | refine TW_skip rfl rfl rfl rfl rfl rfl rfl ?_ | refine TW_done ?_)
        refine TW_one rfl (TL_slv (i := 13) rfl fun qf1 qf2 => TL_store1 (i := 4) rfl rfl rfl qf1 qf2 rfl (TW_on (sub_pick [12] (by decide) rfl) ?_))
        repeat (first
          | ((first | refine TW_plain rfl rfl ?_ | refine TW_gmet rfl rfl rfl rfl ?_); first | refine QW QP ?_ | refine QW QL ?_ | refine QW QA ?_ | refine QW (rr_nilc rfl) ?_ | refine QW QlT ?_ | refine QW QlF ?_ | refine QW QgT ?_ | refine QW QgF ?_ | refine QW QeT ?_ | refine QW QeF ?_ | refine QW QnT ?_ | refine QW QnF ?_ | refine QW QaA ?_)
          | refine TW_skip rfl rfl rfl rfl rfl rfl rfl ?_ | refine TW_done ?_)
        refine E_pick [0, 4, 5, 6, 7, 8, 9, 13, 2, 12, 11] (by decide) rfl ?_
        exact E_mid vf' qf2 (by repeat' (first | exact True.intro | refine And.intro rfl ?_)) rfl
      intro vf' hf'
      (repeat refine T_seq ?_)
      refine T_midq (ι := Value) (fun ve' => ve'.oneCell' = true) (fun _ => [(2, .pointer (some ⟨g2, 0, none⟩)), (7, .pointer (some ⟨g7, 0, none⟩)), (10, .pointer (some ⟨g10, 0, none⟩)), (37, .slice (some ⟨b, off, none⟩) (es.map emb).length ck), (38, .int .i64 (es.map emb).length), (39, .int .i64 (k : Int))])
        (fun ve' => [blkO g2 #[.slice none 0 0, .slice none 0 0, .slice none 0 0, .slice none 0 0, .slice none 0 0, .slice none 0 0] 84, blkO g7 (mkC vc' vr' vf' vfol' vl' ve' (k : Int)) 102, rowO 60 4 vc' p'.classes.length (p'.classes.flatMap clsL), intR vr' p'.rules, folR vfol' vs', folE F' vs' p'.follow, rowO 4 1 vl' p'.last.length (p'.last.map Value.bool), intR vf' (uni m.first first), rowO 4 1 ve' (m.empty ++ [em]).length ((m.empty ++ [em]).map Value.bool), blkO g10 #[.bool em, va, vb] 104, intR vb last]) ?_ ?_
      · refine T_ord ([blkO g10 #[.bool em, va, vb] 104]) (.calm 0 (.calm 1 (.calm 2 (.calm 3 (.calm 4 (.calm 6 (.calm 7 (.two 5 (.one 8 (.one 9 (.calm 10 (.calm 11 (.calm 12 (.one 13 (.done))))))) 8 (.one 5 (.one 9 (.calm 10 (.calm 11 (.calm 12 (.one 13 (.done))))))))))))))) (sub_pick [9] (by decide) rfl) (by kernel_rfl) (by kernel_rfl) (by intro c a d v w h; cases d <;> exact h) ?_
        repeat (first
          | ((first | refine TW_plain rfl rfl ?_ | refine TW_gmet rfl rfl rfl rfl ?_); first | refine QW QP ?_ | refine QW (rr_nilc rfl) ?_ | refine QW (rr_load1 TyC.ty rfl (at_blk (i := 0) rfl rfl)) ?_ | refine QW QL ?_ | refine QW QA ?_ | refine QW (rr_nilc rfl) ?_ | refine QW QlT ?_ | refine QW QlF ?_ | refine QW QgT ?_ | refine QW QgF ?_ | refine QW QeT ?_ | refine QW QeF ?_ | refine QW QnT ?_ | refine QW QnF ?_ | refine QW QaA ?_)
          | refine TW_skip rfl rfl rfl rfl rfl rfl rfl ?_ | refine TW_done ?_)
        refine TW_two rfl rfl ?_ ?_
        · refine TL_val (rr_load1 (v := ve) TyC.ty rfl (at_blk (i := 1) rfl rfl)) rfl rfl rfl (TW_on (sub_pick [9] (by decide) rfl) ?_)
          refine TW_one rfl (TL_litN (cs := #[.bool em]) [.bool em] rfl rfl rfl (by intro v hv; simp at hv; subst hv; rfl) rfl rfl rfl fun g71 => (TW_on (sub_pick [9] (by decide) rfl) ?_))
          refine TW_one rfl (TL_appSl (i := 8) (e := 4) (size := 1) (bytes := 1) (m := m.empty.length) (xs := m.empty.map Value.bool) (k := 1) (ys := [.bool em]) rfl (sl_blk (i := 11) rfl (fun j u h => by simpa using h) (Nat.le_refl 1) (by decide)) rfl rfl rfl (fun u hu => by rw [List.mem_singleton.1 hu]; rfl) (by omega) (by omega) rfl fun ve' => (TW_on (sub_pick [9] (by decide) rfl) ?_))
          repeat (first
            | ((first | refine TW_plain rfl rfl ?_ | refine TW_gmet rfl rfl rfl rfl ?_); first | refine QW QP ?_ | refine QW (rr_nilc rfl) ?_ | refine QW QL ?_ | refine QW QA ?_ | refine QW (rr_nilc rfl) ?_ | refine QW QlT ?_ | refine QW QlF ?_ | refine QW QgT ?_ | refine QW QgF ?_ | refine QW QeT ?_ | refine QW QeF ?_ | refine QW QnT ?_ | refine QW QnF ?_ | refine QW QaA ?_)
            | refine TW_skip rfl rfl rfl rfl rfl rfl rfl ?_ | refine TW_done ?_)
          refine TW_one rfl (TL_slv (i := 8) rfl fun qe1 qe2 => TL_store1 (i := 1) rfl rfl rfl qe1 qe2 rfl (TW_on (sub_pick [9] (by decide) rfl) ?_))
          repeat (first
            | ((first | refine TW_plain rfl rfl ?_ | refine TW_gmet rfl rfl rfl rfl ?_); first | refine QW QP ?_ | refine QW QL ?_ | refine QW QA ?_ | refine QW (rr_nilc rfl) ?_ | refine QW QlT ?_ | refine QW QlF ?_ | refine QW QgT ?_ | refine QW QgF ?_ | refine QW QeT ?_ | refine QW QeF ?_ | refine QW QnT ?_ | refine QW QnF ?_ | refine QW QaA ?_)
            | refine TW_skip rfl rfl rfl rfl rfl rfl rfl ?_ | refine TW_done ?_)
          refine E_pick [0, 1, 2, 3, 4, 5, 6, 7, 8, 9, 10] (by decide) rfl ?_
          exact E_mid ve' qe2 (by repeat' (first | exact True.intro | refine And.intro rfl ?_)) (by rw [← bool_snoc ve' m.empty em]; rfl)
        · refine TL_litN (cs := #[.bool em]) [.bool em] rfl rfl rfl (by intro v hv; simp at hv; subst hv; rfl) rfl rfl rfl fun g71 => (TW_on (sub_pick [9] (by decide) rfl) ?_)
          refine TW_one rfl (TL_val (rr_load1 (v := ve) TyC.ty rfl (at_blk (i := 1) rfl rfl)) rfl rfl rfl (TW_on (sub_pick [9] (by decide) rfl) ?_))
          refine TW_one rfl (TL_appSl (i := 8) (e := 4) (size := 1) (bytes := 1) (m := m.empty.length) (xs := m.empty.map Value.bool) (k := 1) (ys := [.bool em]) rfl (sl_blk (i := 11) rfl (fun j u h => by simpa using h) (Nat.le_refl 1) (by decide)) rfl rfl rfl (fun u hu => by rw [List.mem_singleton.1 hu]; rfl) (by omega) (by omega) rfl fun ve' => (TW_on (sub_pick [9] (by decide) rfl) ?_))
          repeat (first
            | ((first | refine TW_plain rfl rfl ?_ | refine TW_gmet rfl rfl rfl rfl ?_); first | refine QW QP ?_ | refine QW (rr_nilc rfl) ?_ | refine QW QL ?_ | refine QW QA ?_ | refine QW (rr_nilc rfl) ?_ | refine QW QlT ?_ | refine QW QlF ?_ | refine QW QgT ?_ | refine QW QgF ?_ | refine QW QeT ?_ | refine QW QeF ?_ | refine QW QnT ?_ | refine QW QnF ?_ | refine QW QaA ?_)
            | refine TW_skip rfl rfl rfl rfl rfl rfl rfl ?_ | refine TW_done ?_)
          refine TW_one rfl (TL_slv (i := 8) rfl fun qe1 qe2 => TL_store1 (i := 1) rfl rfl rfl qe1 qe2 rfl (TW_on (sub_pick [9] (by decide) rfl) ?_))
          repeat (first
            | ((first | refine TW_plain rfl rfl ?_ | refine TW_gmet rfl rfl rfl rfl ?_); first | refine QW QP ?_ | refine QW QL ?_ | refine QW QA ?_ | refine QW (rr_nilc rfl) ?_ | refine QW QlT ?_ | refine QW QlF ?_ | refine QW QgT ?_ | refine QW QgF ?_ | refine QW QeT ?_ | refine QW QeF ?_ | refine QW QnT ?_ | refine QW QnF ?_ | refine QW QaA ?_)
            | refine TW_skip rfl rfl rfl rfl rfl rfl rfl ?_ | refine TW_done ?_)
          refine E_pick [0, 1, 2, 3, 4, 5, 6, 7, 8, 9, 10] (by decide) rfl ?_
          exact E_mid ve' qe2 (by repeat' (first | exact True.intro | refine And.intro rfl ?_)) (by rw [← bool_snoc ve' m.empty em]; rfl)
      intro ve' he'
      rw [show p'.last.map Value.bool = p'.last.flatMap boolC from (bool_flat _).symm]
      refine T_know (i := 10) (φ := ∃ a c, vb = .slice a last.length c ∧ (0 < last.length → ∃ gl, a = some ⟨gl, 0, none⟩)) rfl (fun w h => by
        obtain ⟨y1, y2⟩ := (show w.ownsRow 0 3 1 vb last.length (last.map (Value.int .i64)) from h)
        rcases y2 with ⟨y3, y4⟩ | ⟨gl, cap, cur, hv, _⟩
        · exact ⟨none, 0, by rw [y3, y4], fun h => by omega⟩
        · exact ⟨_, _, hv, fun _ => ⟨gl, rfl⟩⟩) fun hvb => ?_
      obtain ⟨al, cl, rfl, hal⟩ := hvb
      refine T_know (i := 6) (φ := 0 < p'.last.length → ∃ gb cb, vl' = .slice (some ⟨gb, 0, none⟩) p'.last.length cb) rfl (fun w h => by
        obtain ⟨y1, y2⟩ := (show w.ownsRow 0 4 1 vl' p'.last.length (p'.last.flatMap boolC) from h)
        rcases y2 with ⟨y3, y4⟩ | ⟨gl, cap, cur, hv, _⟩
        · intro h; omega
        · exact fun _ => ⟨gl, cap, hv⟩) fun hvl => ?_
      repeat (first
        | refine QV QP ?_ | refine QZ ?_ | refine qcT rfl ?_ | refine qcF rfl ?_ | refine E_blockX ?_ | refine E_blockO rfl ?_
        | refine qs rfl rfl rfl rfl rfl rfl ?_
        | ((try refine qg rfl rfl rfl ?_); first | refine QV QP ?_ | refine QV (rr_load1 (v := .slice al last.length cl) TyC.ty rfl (at_blk (i := 9) rfl rfl)) ?_ | refine QV QL ?_ | refine QV QA ?_ | refine QV (rr_nilc rfl) ?_ | refine QV QlT ?_ | refine QV QlF ?_ | refine QV QgT ?_ | refine QV QgF ?_ | refine QV QeT ?_ | refine QV QeF ?_ | refine QV QnT ?_ | refine QV QnF ?_ | refine QV QaA ?_))
      refine T_pick [0, 1, 2, 3, 4, 5, 6, 7, 8, 10] (by decide) rfl ?_
      refine T_loop (ι := Nat) (fun j => j ≤ last.length) (fun j => [(2, .pointer (some ⟨g2, 0, none⟩)), (7, .pointer (some ⟨g7, 0, none⟩)), (37, .slice (some ⟨b, off, none⟩) (es.map emb).length ck), (38, .int .i64 (es.map emb).length), (39, .int .i64 (k : Int)), (77, .slice al last.length cl), (78, .int .i64 last.length), (79, .int .i64 (j : Int))])
        (fun j => [blkO g2 #[.slice none 0 0, .slice none 0 0, .slice none 0 0, .slice none 0 0, .slice none 0 0, .slice none 0 0] 84, blkO g7 (mkC vc' vr' vf' vfol' vl' ve' (k : Int)) 102, rowO 60 4 vc' p'.classes.length (p'.classes.flatMap clsL), intR vr' p'.rules, folR vfol' vs', folE F' vs' p'.follow, rowO 4 1 vl' p'.last.length ((markF p'.last (last.take j)).flatMap boolC), intR vf' (uni m.first first), rowO 4 1 ve' (m.empty ++ [em]).length ((m.empty ++ [em]).map Value.bool), intR (.slice al last.length cl) last]) (fun j => last.length - j) 0 (Nat.zero_le _) (by repeat' (first | exact True.intro | refine And.intro rfl ?_)) rfl ?_
      intro j j1
      by_cases c7 : j < last.length
      · obtain ⟨gl, rfl⟩ := hal (by omega)
        have hx := n5.2 last[j] (List.getElem_mem c7)
        have hgx : last[j]? = some last[j] := List.getElem?_eq_getElem c7
        have hms := mark_step p'.last last c7
        have hml2 := mark_len p'.last (last.take j)
        generalize last[j] = xx at *
        obtain ⟨xn, rfl⟩ := Int.eq_ofNat_of_zero_le hx.1
        rw [Int.toNat_natCast] at hms
        have hxn : xn < p'.last.length := by rw [n1.last]; omega
        obtain ⟨gb, cb, rfl⟩ := hvl (by omega)
        have hat3 : ∀ (L : List Own) (hi : L[9]? = some (intR (.slice (some ⟨gl, 0, none⟩) last.length cl) last)), At (w : Base) L ⟨gl, 0 + j * 1, none⟩ (.int .i64 (xn : Int)) := fun L hi => at_row hi (by rw [List.getElem?_map, Nat.zero_add, Nat.mul_one, hgx]; rfl)
        repeat (first
          | refine QV QP ?_ | refine QZ ?_ | refine qcT rfl ?_ | refine qcF rfl ?_ | refine E_blockX ?_ | refine E_blockO rfl ?_
          | refine qs rfl rfl rfl rfl rfl rfl ?_
          | ((try refine qg rfl rfl rfl ?_); first | refine QV QP ?_ | refine QV (rr_idxc Und.eq TyC.ty rfl rfl c7) ?_ | refine QV (rr_load1 (v := .int .i64 (xn : Int)) TyC.ty rfl (hat3 _ rfl)) ?_ | refine QV (rr_nilc rfl) ?_ | refine QV (rr_load1 (v := .slice (some ⟨gb, 0, none⟩) p'.last.length cb) TyC.ty rfl (at_blk (i := 1) rfl rfl)) ?_ | refine QV (rr_idxc Und.eq TyC.ty rfl rfl hxn) ?_ | refine QV QL ?_ | refine QV QA ?_ | refine QV (rr_nilc rfl) ?_ | refine QV QlT ?_ | refine QV QlF ?_ | refine QV QgT ?_ | refine QV QgF ?_ | refine QV QeT ?_ | refine QV QeF ?_ | refine QV QnT ?_ | refine QV QnF ?_ | refine QV QaA ?_))
        refine TL_setRow boolC_len (i := 6) (k := xn) (l := markF p'.last (last.take j)) (a := true) TyC.ty rfl rfl (by omega) (by omega) (by omega) rfl rfl rfl ?_
        rw [← hms]
        conv => arg 8; simp only [zA, zB, zC, zD, zE, zF, zG, zH, zI, rowS, ret, id_eq]
        repeat (first
          | refine QV QP ?_ | refine QZ ?_ | refine qcT rfl ?_ | refine qcF rfl ?_ | refine E_blockX ?_ | refine E_blockO rfl ?_
          | refine qs rfl rfl rfl rfl rfl rfl ?_
          | ((try refine qg rfl rfl rfl ?_); first | refine QV QP ?_ | refine QV QL ?_ | refine QV QA ?_ | refine QV (rr_nilc rfl) ?_ | refine QV QlT ?_ | refine QV QlF ?_ | refine QV QgT ?_ | refine QV QgF ?_ | refine QV QeT ?_ | refine QV QeF ?_ | refine QV QnT ?_ | refine QV QnF ?_ | refine QV QaA ?_))
        exact E_round (j + 1) (by omega) (by show last.length - (j + 1) < last.length - j; omega) (by repeat' (first | exact True.intro | refine And.intro rfl ?_)) rfl
      · obtain rfl : j = last.length := by omega
        rw [List.take_of_length_le (Nat.le_refl _), bool_flat]
        refine T_know (i := 2) (φ := ∃ a c, vc' = .slice a p'.classes.length c) rfl (fun w h => by
          obtain ⟨a, c, h, _⟩ := Sl.of_own (show w.ownsRow 0 60 4 vc' p'.classes.length (p'.classes.flatMap clsL) from h)
          exact ⟨a, c, h⟩) fun hvc => ?_
        obtain ⟨ac, cc, rfl⟩ := hvc
        by_cases c8 : 200 < p'.classes.length
        · rw [if_pos c8] at i2
          rw [i2]
          repeat (first
            | refine QV QP ?_ | refine QZ ?_ | refine qcT rfl ?_ | refine qcF rfl ?_ | refine E_blockX ?_ | refine E_blockO rfl ?_
            | refine qs rfl rfl rfl rfl rfl rfl ?_
            | ((try refine qg rfl rfl rfl ?_); first | refine QV QP ?_ | refine QV (rr_nilc rfl) ?_ | refine QV (rr_load1 (v := .slice ac p'.classes.length cc) TyC.ty rfl (at_blk (i := 1) rfl rfl)) ?_ | refine QV (rr_gtr (b := true) rfl rfl (decide_eq_true (by omega))) ?_ | refine QV (rr_build rfl build_posz) ?_ | refine QV QL ?_ | refine QV QA ?_ | refine QV (rr_nilc rfl) ?_ | refine QV QlT ?_ | refine QV QlF ?_ | refine QV QgT ?_ | refine QV QgF ?_ | refine QV QeT ?_ | refine QV QeF ?_ | refine QV QnT ?_ | refine QV QnF ?_ | refine QV QaA ?_))
          refine TL_storeB (i := 0) rfl rfl rfl rfl rfl rfl ?_
          conv => arg 8; simp only [zA, zB, zC, zD, zE, zF, zG, zH, zI, rowS, ret, id_eq]
          repeat (first
            | refine QV QP ?_ | refine QZ ?_ | refine qcT rfl ?_ | refine qcF rfl ?_ | refine E_blockX ?_ | refine E_blockO rfl ?_
            | refine qs rfl rfl rfl rfl rfl rfl ?_
            | ((try refine qg rfl rfl rfl ?_); first | refine QV QP ?_ | refine QV QL ?_ | refine QV QA ?_ | refine QV (rr_nilc rfl) ?_ | refine QV QlT ?_ | refine QV QlF ?_ | refine QV QgT ?_ | refine QV QgF ?_ | refine QV QeT ?_ | refine QV QeF ?_ | refine QV QnT ?_ | refine QV QnF ?_ | refine QV QaA ?_))
          refine E_zero ?_
          exact E_retc2 (i := 0) rfl rfl rfl rfl rfl fun w hm => hm.meets (S := makeSp (2, .zero)) nilP rfl [10, 11, 12, 13, 14, 15, 16] (by decide) rfl
        · rw [if_neg c8] at i2
          repeat (first
            | refine QV QP ?_ | refine QZ ?_ | refine qcT rfl ?_ | refine qcF rfl ?_ | refine E_blockX ?_ | refine E_blockO rfl ?_
            | refine qs rfl rfl rfl rfl rfl rfl ?_
            | ((try refine qg rfl rfl rfl ?_); first | refine QV QP ?_ | refine QV (rr_nilc rfl) ?_ | refine QV (rr_load1 (v := .slice ac p'.classes.length cc) TyC.ty rfl (at_blk (i := 1) rfl rfl)) ?_ | refine QV (rr_gtr (b := false) rfl rfl (decide_eq_false (by omega))) ?_ | refine QV QL ?_ | refine QV QA ?_ | refine QV (rr_nilc rfl) ?_ | refine QV QlT ?_ | refine QV QlF ?_ | refine QV QgT ?_ | refine QV QgF ?_ | refine QV QeT ?_ | refine QV QeF ?_ | refine QV QnT ?_ | refine QV QnF ?_ | refine QV QaA ?_))
          refine E_pick [0, 1, 2, 3, 4, 5, 6, 7, 8] (by decide) rfl ?_
          exact E_round (k + 1, ⟨{ p' with last := markF p'.last last }, uni m.first first, m.empty ++ [em]⟩, ⟨.slice ac p'.classes.length cc, vr', vfol', vl', vs', F'⟩, vf', ve', (k : Int)) ⟨by omega, i2, hst.1, by show p'.classes.length ≤ 200; omega, hx', by rw [List.length_append, List.length_singleton, i6]⟩ (by show es.length - (k + 1) < es.length - k; omega) (by repeat' (first | exact True.intro | refine And.intro rfl ?_)) (by dsimp only; rw [show p'.last.length = (markF p'.last last).length from (mark_len _ _).symm]; rfl)
    · obtain rfl : k = es.length := by omega
      rw [List.drop_eq_nil_of_le (Nat.le_refl _)] at i2
      rw [i2]
      repeat (first
        | refine QV QP ?_ | refine QZ ?_ | refine qcT rfl ?_ | refine qcF rfl ?_ | refine E_blockX ?_ | refine E_blockO rfl ?_
        | refine qs rfl rfl rfl rfl rfl rfl ?_
        | ((try refine qg rfl rfl rfl ?_); first | refine QV QP ?_ | refine QV (rr_nilc rfl) ?_ | refine QV QL ?_ | refine QV QA ?_ | refine QV (rr_nilc rfl) ?_ | refine QV QlT ?_ | refine QV QlF ?_ | refine QV QgT ?_ | refine QV QgF ?_ | refine QV QeT ?_ | refine QV QeF ?_ | refine QV QnT ?_ | refine QV QnF ?_ | refine QV QaA ?_))
      refine TL_slv (i := 2) rfl fun _ a1 => TL_slv (i := 3) rfl fun _ a2 => TL_slv (i := 4) rfl fun _ a3 => TL_slv (i := 6) rfl fun _ a4 => TL_slv (i := 7) rfl fun _ a5 => TL_slv (i := 8) rfl fun _ a6 => ?_
      repeat (first
        | refine QV QP ?_ | refine QZ ?_ | refine qcT rfl ?_ | refine qcF rfl ?_ | refine E_blockX ?_ | refine E_blockO rfl ?_
        | refine qs rfl rfl rfl rfl rfl rfl ?_
        | ((try refine qg rfl rfl rfl ?_); first | refine QV QP ?_ | refine QV (rr_loadN (cs := [vc, vr, vf, vfol, vl, ve]) TyC.ty rfl rfl (fun j v hj => at_blk (i := 1) rfl (posn_at hj))) ?_ | refine QV QL ?_ | refine QV QA ?_ | refine QV (rr_nilc rfl) ?_ | refine QV QlT ?_ | refine QV QlF ?_ | refine QV QgT ?_ | refine QV QgF ?_ | refine QV QeT ?_ | refine QV QeF ?_ | refine QV QnT ?_ | refine QV QnF ?_ | refine QV QaA ?_))
      refine TL_storeB (i := 0) (cs' := #[vc, vr, vf, vfol, vl, ve]) rfl rfl rfl rfl (by simp only [List.all_cons, List.all_nil, a1, a2, a3, a4, a5, a6]; rfl) rfl ?_
      conv => arg 8; simp only [zA, zB, zC, zD, zE, zF, zG, zH, zI, rowS, ret, id_eq]
      repeat (first
        | refine QV QP ?_ | refine QZ ?_ | refine qcT rfl ?_ | refine qcF rfl ?_ | refine E_blockX ?_ | refine E_blockO rfl ?_
        | refine qs rfl rfl rfl rfl rfl rfl ?_
        | ((try refine qg rfl rfl rfl ?_); first | refine QV QP ?_ | refine QV QL ?_ | refine QV QA ?_ | refine QV (rr_nilc rfl) ?_ | refine QV QlT ?_ | refine QV QlF ?_ | refine QV QgT ?_ | refine QV QgF ?_ | refine QV QeT ?_ | refine QV QeF ?_ | refine QV QnT ?_ | refine QV QnF ?_ | refine QV QaA ?_))
      exact E_retc2 (i := 0) rfl rfl rfl rfl rfl fun w hm => hm.meets (S := makeSp (0, m)) ⟨vc, vr, vf, vfol, vl, ve, vs, F⟩ i5 [2, 3, 7, 4, 5, 6, 8] (by decide) rfl
end Go.Proofs.Ytkmemlnkijinlaa.eng

/- ClassB -/
namespace Go.Proofs.Ytkmemlnkijinlaa
open Go.RowKit kit mix classL
attribute [local go_sem] and64 or64 xor64 not64
theorem cls_cells {w : World} {g : Nat} {x : C4} (h : Wr w g 0 (clsL x)) : w.cell? ⟨g, 0, none⟩ = some (v64 x.a) ∧ w.cell? ⟨g, 1, none⟩ = some (v64 x.b) ∧ w.cell? ⟨g, 2, none⟩ = some (v64 x.c) ∧ w.cell? ⟨g, 3, none⟩ = some (v64 x.d) :=
  ⟨(h 0 _ rfl).1, (h 1 _ rfl).1, (h 2 _ rfl).1, (h 3 _ rfl).1⟩
theorem cls_block {w : World} {g : Nat} {x : C4} {T : TypeId} (h : w.heap[g]? = some (.cells #[.int .u64 (n64 x.a), .int .u64 (n64 x.b), .int .u64 (n64 x.c), .int .u64 (n64 x.d)] T (0, 0))) : Wr w g 0 (clsL x) := fun j u hj => by
  rw [Nat.zero_add, cell_of_row w g j _ T (0, 0) h]
  exact ⟨by simpa [clsL] using hj, frozen_of_row w g j _ T h⟩
/-- three classes laid one behind the other -/
theorem box_cls {w : World} {B : Nat} (hB : w.heap.size = B) (x : C4) (T : TypeId) : Wr (w.alloc (.cells #[.int .u64 (n64 x.a), .int .u64 (n64 x.b), .int .u64 (n64 x.c), .int .u64 (n64 x.d)] T)) B 0 (clsL x) :=
  cls_block (blk_new w _ B hB)
theorem gr_alloc (w : World) (o : Obj) : Below w.heap.size w (w.alloc o) := (Below.refl _ _).alloc (Nat.le_refl _) _
theorem cls_at {w : World} {g : Nat} {x : C4} (h : Wr w g 0 (clsL x)) (i : Nat) (hi : i < 4) : w.cell? ⟨g, i, none⟩ = some (.int .u64 (n64 (x.get i))) ∧ w.frozen? ⟨g, i, none⟩ = false := by
  have := h i _ (clsL_get x i hi)
  rw [Nat.zero_add] at this
  exact this
theorem cls_store {w : World} {g : Nat} {x : C4} (h : Wr w g 0 (clsL x)) (i : Nat) (hi : i < 4) (v : BitVec 64) : Wr (w.setCell ⟨g, i, none⟩ (.int .u64 (n64 v))) g 0 (clsL (x.set i v)) := by
  have := h.set i (by simp [clsL]; omega) (v64 v)
  rw [Nat.zero_add, clsL_set x i hi v] at this
  exact this
set_option maxHeartbeats 2000000 in
theorem range_calls (lo hi : Int) (w : World) (h1 : okI64 lo) (h2 : okI64 hi) :
    Calls Try.prog 35 #[.int .i64 lo, .int .i64 hi] w fun e w' => e = .returned (clsV (rangeF lo hi)) ∧ Below w.heap.size w w' := by
  obtain ⟨l1, l2⟩ := h1
  obtain ⟨m1, m2⟩ := h2
  unfold clsV
  have hstart : Below w.heap.size w ((w.alloc (.cells #[.int .u64 0, .int .u64 0, .int .u64 0, .int .u64 0] 60)).alloc (.cells #[.int .u64 0, .int .u64 0, .int .u64 0, .int .u64 0] 60)) ∧ Wr ((w.alloc (.cells #[.int .u64 0, .int .u64 0, .int .u64 0, .int .u64 0] 60)).alloc (.cells #[.int .u64 0, .int .u64 0, .int .u64 0, .int .u64 0] 60)) w.heap.size 0 (clsL C4.zero) ∧ Wr ((w.alloc (.cells #[.int .u64 0, .int .u64 0, .int .u64 0, .int .u64 0] 60)).alloc (.cells #[.int .u64 0, .int .u64 0, .int .u64 0, .int .u64 0] 60)) (w.heap.size + 1) 0 (clsL C4.zero) :=
    ⟨(((Below.refl _ _).alloc (Nat.le_refl _) _).alloc (by simp) _), ((box_cls rfl C4.zero _).gr (gr_alloc _ _)), (box_cls (by simp) C4.zero _)⟩
  obtain ⟨B, hB⟩ : ∃ B, B = w.heap.size := ⟨_, rfl⟩
  rw [← hB] at hstart
  go_enter Try.func35, Try.ntmps35
  go_upto_region 2 with (fail)
  rw [← hB]
  have hBle : w.heap.size ≤ B := by omega
  have hBge : B ≤ w.heap.size := by omega
  clear hB
  go_cut [6] (fun s6 w' => w' = ((w.alloc (.cells #[.int .u64 0, .int .u64 0, .int .u64 0, .int .u64 0] 60)).alloc (.cells #[.int .u64 0, .int .u64 0, .int .u64 0, .int .u64 0] 60)) ∧ s6 = .int .i64 (max lo 0))
  case first =>
    go_wp2
    all_goals
      go_meet
      case rel => exact ⟨rfl, by congr 1 <;> omega⟩
  case rest =>
    obtain ⟨rfl, rfl⟩ := hcut
    obtain ⟨b0, hb0⟩ : ∃ b0 : Nat, (b0 : Int) = max lo 0 := ⟨(max lo 0).toNat, by omega⟩
    have hF : rangeF lo hi = C4.bitsFrom C4.zero b0 (min hi 255 + 1 - b0).toNat := by unfold rangeF; rw [← hb0]; rfl
    have HF := Lib.hid hF
    rw [← hb0]
    clear hF hb0
    obtain ⟨hs1, hs2, hs3⟩ := hstart
    obtain ⟨N, hN⟩ : ∃ N, N = (min hi 255 + 1 - b0).toNat := ⟨_, rfl⟩
    have HN := Lib.hid hN
    have hN1 : 0 < N → (b0 : Int) + N = min hi 255 + 1 := fun h => by omega
    have hN0 : N = 0 → min hi 255 < (b0 : Int) := fun h => by omega
    have hN2 : N = 0 ∨ b0 + N ≤ 256 := by omega
    clear hN
    rcases (show 255 < hi ∨ hi ≤ 255 by omega) with hh | hh
    all_goals
      go_wp2_with fail
      go_loopg [6] N (fun g c wr => ∃ i : Nat, i + g = N ∧ c = .int .i64 ((b0 + i : Nat) : Int) ∧ Below B w wr ∧ Wr wr B 0 (clsL C4.zero) ∧ Wr wr (B + 1) 0 (clsL (C4.bitsFrom C4.zero b0 i)))
      case atStart => exact ⟨0, by omega, rfl, hs1, hs2, hs3⟩
      case round =>
        obtain ⟨i, hi', rfl, hb, hr, hx⟩ := hrel
        clear hs1 hs2 hs3
        by_cases hlt : i < N
        · have hbb : ((b0 + i : Nat) : Int) ≤ hi := by have := hN1 (by omega); omega
          have hb255 : b0 + i ≤ 255 := by omega
          have hstep := bit_step C4.zero b0 i
          generalize hbn : b0 + i = b at hbb hb255 hstep ⊢
          have h4 : b / 64 < 4 := by omega
          have cx : ∀ w', Up wr.drew w' → w'.cell? ⟨B + 1, b / 64, none⟩ = some (.int .u64 (n64 ((C4.bitsFrom C4.zero b0 i).get (b / 64)))) := fun w' hw => (cls_at ((hx.gr (Gr.drew _)).gr hw) (b / 64) h4).1
          have hand := i64_and63 b (by omega)
          have hsh := one_shl (b % 64) (Nat.mod_lt _ (by decide))
          have HS0 := Lib.hid hstep
          have HI := Lib.hid hi'
          clear hN1 hN0 hN2 hstep hi'
          go_wp2_with fail
          refine mix 9 (List.replicate 9 true) rfl (by kernel_rfl) (by kernel_rfl) (by intro c a d v w h; cases d <;> exact h) (Up wr.drew) (closed_up _) (Gr.refl _) ?_
          simp only [List.take_succ_cons, List.take_zero, List.drop_succ_cons, List.drop_zero, List.replicate]
          repeat (first
            | (refine wpM_val (by rfl) (fun w hSw => by go_simp; (try (simp only [↓IntWalk.iteOmega]; try go_simp)); (try go_bits); first | done | with_reducible rfl) ?_; simp only [Act.put, List.setIfInBounds_toArray, List.set_cons_zero, List.set_cons_succ])
            | (refine wpM_skip (by rfl) ?_; simp only [Act.put, List.setIfInBounds_toArray, List.set_cons_zero, List.set_cons_succ]))
          refine wpM_end fun w5 hw5 => ?_
          have hx5 := (hx.gr (Gr.drew _)).gr hw5
          have hr5 := (hr.gr (Gr.drew _)).gr hw5
          have hb5 : Below B w w5 := below_gr hb.drew (by have := hb.size; simp; omega) hw5
          obtain ⟨c1, c2⟩ := cls_at hx5 (b / 64) h4
          have hs := cls_store hx5 (b / 64) h4 ((C4.bitsFrom C4.zero b0 i).get (b / 64) ||| BitVec.ofNat 64 (2 ^ (b % 64)))
          have hf1 := hr5.far (a := ⟨B + 1, b / 64, none⟩) (by simp) (.int .u64 (n64 ((C4.bitsFrom C4.zero b0 i).get (b / 64) ||| BitVec.ofNat 64 (2 ^ (b % 64)))))
          have hbs := hb5.setCell (p := ⟨B + 1, b / 64, none⟩) (by simp) (.int .u64 (n64 ((C4.bitsFrom C4.zero b0 i).get (b / 64) ||| BitVec.ofNat 64 (2 ^ (b % 64)))))
          rw [HS0.out] at hs
          have HS := Lib.hid (And.intro hs (And.intro hf1 hbs))
          clear hs hf1 hbs hx5 hr5 hb5 cx hx hr hb hw5 hand hsh
          go_wp2_with fail
          have hi' := HI.out
          go_roundg (gk - 1)
          case measure => omega
          case rel => exact ⟨i + 1, by omega, by go_num, HS.out.2.2, HS.out.2.1, HS.out.1⟩
        · obtain rfl : i = N := by omega
          have hbig : min hi 255 < ((b0 + i : Nat) : Int) := by
            by_cases h0 : i = 0
            · have := hN0 h0; omega
            · have := hN1 (by omega); omega
          have hE : C4.bitsFrom C4.zero b0 i = rangeF lo hi := by rw [HF.out, ← HN.out]
          rw [hE] at hx
          obtain ⟨c0, c1, c2, c3⟩ := cls_cells hx
          obtain ⟨⟨r0, f0⟩, ⟨r1, f1⟩, ⟨r2, f2⟩, ⟨r3, f3⟩⟩ : _ ∧ _ ∧ _ ∧ _ := ⟨cls_at hr 0 (by decide), cls_at hr 1 (by decide), cls_at hr 2 (by decide), cls_at hr 3 (by decide)⟩
          clear hN1 hN0 hN2 hE
          generalize b0 + i = b at *
          have hbig' : ¬ (b : Int) ≤ min hi 255 := by omega
          go_wp2_with fail
          refine bodyPost_ret (v := .agg #[.int .u64 (n64 (rangeF lo hi).a), .int .u64 (n64 (rangeF lo hi).b), .int .u64 (n64 (rangeF lo hi).c), .int .u64 (n64 (rangeF lo hi).d)]) (by simp [results, Try.results35, go_sem, r0, r1, r2, r3]) rfl ⟨rfl, ?_⟩
          exact ((((hb.setCell (by simp) _).setCell (by simp) _).setCell (by simp) _).setCell (by simp) _).mono hBle
end Go.Proofs.Ytkmemlnkijinlaa

/- ClsRg -/
namespace Go.Proofs.Ytkmemlnkijinlaa.classSets
open Go.RowKit kit mix classL eng
theorem rangeE (lo hi : Int) (h1 : okI64 lo) (h2 : okI64 hi) (w : World) : Calls Try.prog 35 #[.int .i64 lo, .int .i64 hi] w (Meets (ret (clsV (rangeF lo hi))) w) := (range_calls lo hi w h1 h2).mono fun e w' ⟨he, hb⟩ => meets_ret he hb
end Go.Proofs.Ytkmemlnkijinlaa.classSets

/- RexPl -/
namespace Go.Proofs.Ytkmemlnkijinlaa.eng
open Go.RowKit kit mix classL rexL classSets
theorem build_rexL (c : C4) (w : World) : (Instr.build 63 #[(0, .int .i64 3), (1, clsV c)]).run Try.prog w = .ok (rexV 3 c (.slice none 0 0)) w := by kernel_rfl
theorem build_rexN (k : Int) (g n : Nat) (w : World) : (Instr.build 63 #[(0, .int .i64 k), (2, .slice (some ⟨g, 0, none⟩) n n)]).run Try.prog w = .ok (rexV k C4.zero (.slice (some ⟨g, 0, none⟩) n n)) w := by kernel_rfl
theorem letter_calls (b : Int) (w : World) (hb : kit.okI64 b) : Calls Try.prog 20 #[.int .i64 b] w (Meets (ret (rexV 3 (rangeF b b) (.slice none 0 0))) w) := by
  have hr := fun w => rangeE b b hb hb w
  have hbl := build_rexL (rangeF b b)
  generalize rangeF b b = c at *
  refine enter (args := [.int .i64 b]) (n := 7) Try.func20 rfl rfl rfl ?_
  refine T_seq (T_region (TL_new rfl fun g2 => ?_))
  conv => arg 8; simp only [zA, zB, zC, zD, zE, zF, zG, zH, zI, rowS, ret, id_eq]
  repeat (first
    | refine QV QP ?_ | refine QZ ?_)
  refine TL_call (he2 EntersC.en rfl rfl rfl) (fun w hm => hr _) rfl rfl rfl ?_
  intro _ _
  conv => arg 8; simp only [zA, zB, zC, zD, zE, zF, zG, zH, zI, rowS, ret, id_eq]
  repeat (first
    | refine QV QP ?_ | refine QZ ?_ | refine QV (rr_build rfl hbl) ?_)
  refine TL_storeB (i := 0) (cs' := (rexC 3 c (.slice none 0 0)).toArray) rfl rfl rfl rfl rfl rfl ?_
  conv => arg 8; simp only [zA, zB, zC, zD, zE, zF, zG, zH, zI, rowS, ret, id_eq]
  repeat (first
    | refine QV QP ?_ | refine QZ ?_)
  exact E_retc1 (i := 0) rfl rfl rfl rfl fun w hm => hm.ret
/-- kids that were put into a list -/
def kidO (g : Nat) (l : List (List Value)) : Own := blkO g l.flatten.toArray 63
def starS (cs : List Value) : Spec Nat := ⟨fun _ => True, fun g => rexV 6 C4.zero (.slice (some ⟨g, 0, none⟩) 1 1), fun g => [kidO g [cs]]⟩
def twoS (k : Int) (cs cs' : List Value) : Spec Nat := ⟨fun _ => True, fun g => rexV k C4.zero (.slice (some ⟨g, 0, none⟩) 2 2), fun g => [kidO g [cs, cs']]⟩
theorem star_calls (k : Int) (c : C4) (b : Option Addr) (l cap : Nat) (w : World) : Calls Try.prog 22 #[rexV k c (.slice b l cap)] w (Meets (starS (rexC k c (.slice b l cap))) w) := by
  refine enter (args := [rexV k c (.slice b l cap)]) (n := 6) Try.func22 rfl rfl rfl ?_
  refine T_seq (T_region (TL_box rfl rfl rfl fun g1 => TL_new rfl fun g2 => ?_))
  conv => arg 8; simp only [zA, zB, zC, zD, zE, zF, zG, zH, zI, rowS, ret, id_eq]
  repeat (first
    | refine QZ ?_ | refine QV (rr_loadB (i := 0) TyC.ty rfl rfl rfl) ?_)
  refine TL_one (cs := [rexC k c (.slice b l cap)].flatten.toArray) rfl rfl rfl rfl rfl fun g4 => ?_
  conv => arg 8; simp only [zA, zB, zC, zD, zE, zF, zG, zH, zI, rowS, ret, id_eq]
  repeat (first
    | refine QZ ?_ | refine QV (rr_build rfl (build_rexN 6 g4 1)) ?_)
  refine TL_storeB (i := 1) (cs' := (rexC 6 C4.zero (.slice (some ⟨g4, 0, none⟩) 1 1)).toArray) rfl rfl rfl rfl rfl rfl ?_
  conv => arg 8; simp only [zA, zB, zC, zD, zE, zF, zG, zH, zI, rowS, ret, id_eq]
  repeat (first
    | refine QZ ?_)
  refine E_retc1 (i := 1) rfl rfl rfl rfl fun w hm => ?_
  exact hm.meets (S := starS (rexC k c (.slice b l cap))) g4 trivial [2] (by decide) rfl
theorem two_calls (q k k' : Int) (c c' : C4) (b b' : Option Addr) (l l' cap cap' : Nat) (w : World) : Calls Try.prog 21 #[.int .i64 q, rexV k c (.slice b l cap), rexV k' c' (.slice b' l' cap')] w (Meets (twoS q (rexC k c (.slice b l cap)) (rexC k' c' (.slice b' l' cap'))) w) := by
  refine enter (args := [.int .i64 q, rexV k c (.slice b l cap), rexV k' c' (.slice b' l' cap')]) (n := 12) Try.func21 rfl rfl rfl ?_
  refine T_seq (T_region (TL_box rfl rfl rfl fun g4 => TL_box rfl rfl rfl fun g5 => TL_new rfl fun g6 => ?_))
  conv => arg 8; simp only [zA, zB, zC, zD, zE, zF, zG, zH, zI, rowS, ret, id_eq]
  repeat (first
    | refine QV QP ?_ | refine QZ ?_ | refine QV (rr_loadB (i := 0) TyC.ty rfl rfl rfl) ?_ | refine QV (rr_loadB (i := 1) TyC.ty rfl rfl rfl) ?_)
  refine TL_litN (cs := [rexC k c (.slice b l cap), rexC k' c' (.slice b' l' cap')].flatten.toArray) [rexV k c (.slice b l cap), rexV k' c' (.slice b' l' cap')] rfl rfl rfl (by intro v hv; simp only [List.mem_cons, List.not_mem_nil, or_false] at hv; rcases hv with rfl | rfl <;> rfl) rfl rfl rfl fun g10 => ?_
  conv => arg 8; simp only [zA, zB, zC, zD, zE, zF, zG, zH, zI, rowS, ret, id_eq]
  repeat (first
    | refine QV QP ?_ | refine QZ ?_ | refine QV (rr_build rfl (build_rexN q g10 2)) ?_)
  refine TL_storeB (i := 2) (cs' := (rexC q C4.zero (.slice (some ⟨g10, 0, none⟩) 2 2)).toArray) rfl rfl rfl rfl rfl rfl ?_
  conv => arg 8; simp only [zA, zB, zC, zD, zE, zF, zG, zH, zI, rowS, ret, id_eq]
  repeat (first
    | refine QV QP ?_ | refine QZ ?_)
  refine E_retc1 (i := 2) rfl rfl rfl rfl fun w hm => ?_
  exact hm.meets (S := twoS q (rexC k c (.slice b l cap)) (rexC k' c' (.slice b' l' cap'))) g10 trivial [3] (by decide) rfl
/-- what was put together can be read -/
theorem kids_rex {w : World} {g : Nat} {k : Int} {l : List (Int × C4 × Value × Rx)} (hk : kit.okI64 k) (h : (kidO g (l.map fun x => rexC x.1 x.2.1 x.2.2.1)).holds w) (hl : l.length ≤ 2) (hr : ∀ x ∈ l, RexIs (Low w) w (rexC x.1 x.2.1 x.2.2.1) x.2.2.2) :
    RexR (Low w) w (rexV k C4.zero (.slice (some ⟨g, 0, none⟩) l.length l.length)) (.mk k C4.zero (l.map fun x => x.2.2.2)) := by
  have hb : w.heap[g]? = some (.cells (l.map fun x => rexC x.1 x.2.1 x.2.2.1).flatten.toArray 63 (0, 0)) := h
  refine ⟨_, rfl, hk, some ⟨g, 0, none⟩, l.length, by show Value.slice _ l.length _ = _; rw [show (Rx.mk k C4.zero (l.map fun x => x.2.2.2)).kids.length = l.length from List.length_map ..], by rw [show (Rx.mk k C4.zero (l.map fun x => x.2.2.2)).kids.length = l.length from List.length_map ..]; exact Nat.le_refl _, by unfold maxLen; omega, fun _ => ⟨g, 0, rfl, (Array.getElem?_eq_some_iff.1 hb).1, fun i hi => ?_⟩⟩
  have hi' : i < l.length := by have : i < (l.map fun x => x.2.2.2).length := hi; simpa using this
  refine ⟨rexC l[i].1 l[i].2.1 l[i].2.2.1, ?_, fun j u hj => ?_⟩
  · have e : (Rx.mk k C4.zero (l.map fun x => x.2.2.2)).kids[i] = l[i].2.2.2 := by exact List.getElem_map (h := by simpa using hi') ..
    rw [e]
    exact hr l[i] (List.getElem_mem hi')
  · rw [cell_of_row w g _ _ _ _ hb, List.getElem?_toArray, Nat.zero_add]
    have hj6 : j < 6 := by have := (List.getElem?_eq_some_iff.1 hj).1; simpa [rexC, clsL] using this
    have := flatten_get (c := 6) (l.map fun x => rexC x.1 x.2.1 x.2.2.1) (fun x hx => by obtain ⟨y, _, rfl⟩ := List.mem_map.1 hx; rfl) i j (by simpa using hi') hj6
    show (l.map fun x => rexC x.1 x.2.1 x.2.2.1).flatten[i * 6 + j]? = some u
    rw [this, List.getElem_map]; exact hj
theorem rex_cs {F : Nat → Prop} {w : World} {vk : Value} {r : Rx} (h : RexR F w (rexV r.kind r.cls vk) r) : RexIs F w (rexC r.kind r.cls vk) r := by
  obtain ⟨k, c, kids⟩ := r
  obtain ⟨vk', e, h1, h2⟩ := h
  dsimp only [Rx.kind, Rx.cls, Rx.kids] at e h1 h2 ⊢
  have : vk = vk' := by simpa [rexV, rexC, clsL] using e
  subst this
  exact rex_iff.2 ⟨_, rfl, h1, h2⟩
theorem two_rex {w : World} {g : Nat} {k : Int} {r q : Rx} {vk vk' : Value} (hk : kit.okI64 k) (h : (kidO g [rexC r.kind r.cls vk, rexC q.kind q.cls vk']).holds w) (hr : RexR (Low w) w (rexV r.kind r.cls vk) r) (hq : RexR (Low w) w (rexV q.kind q.cls vk') q) :
    RexR (Low w) w (rexV k C4.zero (.slice (some ⟨g, 0, none⟩) 2 2)) (.mk k C4.zero [r, q]) :=
  kids_rex (l := [(r.kind, r.cls, vk, r), (q.kind, q.cls, vk', q)]) hk h (Nat.le_refl 2) fun x hx => by
    simp only [List.mem_cons, List.not_mem_nil, or_false] at hx
    rcases hx with rfl | rfl
    · exact rex_cs hr
    · exact rex_cs hq
theorem star_rex {w : World} {g : Nat} {r : Rx} {vk : Value} (h : (kidO g [rexC r.kind r.cls vk]).holds w) (hr : RexR (Low w) w (rexV r.kind r.cls vk) r) :
    RexR (Low w) w (rexV 6 C4.zero (.slice (some ⟨g, 0, none⟩) 1 1)) (.mk 6 C4.zero [r]) :=
  kids_rex (l := [(r.kind, r.cls, vk, r)]) ⟨by decide, by decide⟩ h (by show 1 ≤ 2; omega) fun x hx => by
    simp only [List.mem_cons, List.not_mem_nil, or_false] at hx
    subst hx
    exact rex_cs hr
theorem star_rexK {w : World} {g : Nat} {k : Int} {c : C4} {kids : List Rx} {vk : Value} (h : (kidO g [rexC k c vk]).holds w) (hr : RexR (Low w) w (rexV k c vk) (.mk k c kids)) :
    RexR (Low w) w (rexV 6 C4.zero (.slice (some ⟨g, 0, none⟩) 1 1)) (.mk 6 C4.zero [.mk k c kids]) := star_rex (r := .mk k c kids) h hr
theorem two_rexK {w : World} {g : Nat} {q k k' : Int} {c c' : C4} {kids kids' : List Rx} {vk vk' : Value} (hq : kit.okI64 q) (h : (kidO g [rexC k c vk, rexC k' c' vk']).holds w) (hr : RexR (Low w) w (rexV k c vk) (.mk k c kids)) (hr' : RexR (Low w) w (rexV k' c' vk') (.mk k' c' kids')) :
    RexR (Low w) w (rexV q C4.zero (.slice (some ⟨g, 0, none⟩) 2 2)) (.mk q C4.zero [.mk k c kids, .mk k' c' kids']) := two_rex (r := .mk k c kids) (q := .mk k' c' kids') hq h hr hr'
theorem leaf_rex {F : Nat → Prop} {w : World} {k : Int} {c : C4} (hk : kit.okI64 k) : RexR F w (rexV k c (.slice none 0 0)) (.mk k c []) := ⟨_, rfl, hk, SlF.nil⟩
end Go.Proofs.Ytkmemlnkijinlaa.eng

/- PlR -/
namespace Go.Proofs.Ytkmemlnkijinlaa.eng
open Go.RowKit kit mix classL rexL placesL classSets
theorem slr_gr {w w' : World} {v : Value} {l : List Rx} (h : SlF rexS (Low w) w v l) (hg : Gr w w') : SlF rexS (Low w') w' v l :=
  (h.stay fun k hk => hg.block k hk).mono fun k hk => Nat.lt_of_lt_of_le hk hg.size
theorem fit_size {e : Re} (h : Fit e 1 0) : e.size ≤ 100 := by have := h.sz; omega
theorem checkM_fit : ∀ {es : List Re}, (∀ e ∈ es, Fit e 1 0) → checkM (es.map emb) = 0
  | [], _ => rfl
  | e :: es, h => by
    have h1 : chkR (emb e) = 0 := by show (chk (emb e) 1 0).1 = 0; rw [fit_chk e 1 0 (h e (List.mem_cons_self ..))]
    rw [List.map_cons, checkM, if_neg (by simpa using h1)]
    exact checkM_fit fun x hx => h x (List.mem_cons_of_mem _ hx)
theorem letter_nz {b : Nat} (hb : b < 256) : rangeF b b ≠ C4.zero := fun h => by
  have h1 : (rangeF b b).mem b = true := by rw [range_mem _ _ _ hb, decide_eq_true_eq]; omega
  rw [h, zero_mem] at h1; cases h1
theorem make_fit {es : List Re} (h0 : es ≠ []) (h20 : es.length ≤ 20) (h : ∀ e ∈ es, Fit e 1 0) : MakeR (es.map emb) (loopM 0 .zero es) :=
  .inr (.inr ⟨by rw [List.length_map]; have := List.length_pos_iff.2 h0; omega, checkM_fit h, es, rfl, fun e he => fit_size (h e he), rfl⟩)
/-- an own row is a slice -/
theorem row_sl {e : TypeId} {size n : Nat} {v : Value} {xs : List Value} (w : World) (h : (rowO e size v n xs).holds w) : ∃ a c, v = .slice a n c ∧ (0 < n → ∃ g, a = some ⟨g, 0, none⟩) := by
  rcases (show w.ownsRow 0 e size v n xs from h).2 with ⟨rfl, rfl⟩ | ⟨g, cap, cur, rfl, _⟩
  · exact ⟨_, _, rfl, fun h => by omega⟩
  · exact ⟨_, _, rfl, fun _ => ⟨g, rfl⟩⟩
theorem row_slm {e : TypeId} {size n : Nat} {v : Value} {xs : List Value} (w : World) (h : (rowO e size v n xs).holds w) : ∃ a c, v = .slice a n c ∧ n ≤ 9223372036854775807 ∧ (0 < n → ∃ g, a = some ⟨g, 0, none⟩) := by
  rcases (show w.ownsRow 0 e size v n xs from h).2 with ⟨rfl, rfl⟩ | ⟨g, cap, cur, rfl, _, _, hn, hm, _⟩
  · exact ⟨_, _, rfl, by omega, fun h => by omega⟩
  · exact ⟨_, _, rfl, by unfold maxLen at hm; omega, fun _ => ⟨g, rfl⟩⟩
/-- what Make made, as it can be read -/
theorem pos_slf {F : Nat → Prop} {v : Value} {vs : List Value} {fol : List (List Int)} {w : World} (hr : (folR v vs).holds w) (he : (folE F vs fol).holds w) (hl : vs.length = fol.length) : SlF (sliceS intS) (Low w) w v fol := by
  have hr' : w.ownsRow 0 24 1 v vs.length (vs.flatMap one1) := hr
  obtain ⟨base, cap, h1, h2, h3, h4⟩ := Sl.of_own hr'
  rw [hl] at h1 h2
  refine ⟨base, cap, h1, h2, h3, fun h0 => ?_⟩
  obtain ⟨b, off, h5, h6⟩ := h4 (by omega)
  rw [one1_flat] at h6
  refine ⟨b, off, h5, ?_, fun i hi => ⟨[vs[i]'(by omega)], ⟨vs[i]'(by omega), rfl, ?_⟩, fun j u hj => ?_⟩⟩
  · have := h6 0 _ (List.getElem?_eq_getElem (by omega))
    exact World.block_lt_of_cell? w _ this
  · have hs := fol_sl he hi (by omega)
    obtain ⟨⟨q1, q2⟩, q3⟩ := he
    obtain ⟨v', hv', hok, _, hF⟩ := q2 i hi (by rw [List.length_map]; omega)
    rw [List.getElem_map] at hv'
    simp only [one1, List.cons.injEq, and_true] at hv'
    rw [← int_flat] at hs
    refine SlF.of_flat hs hok (fun b hb => q3 b (hF b (by rw [← hv']; exact hb))) fun a n cp hv => q3 a.block (hF _ (by rw [← hv', hv]; rfl))
  · have hj0 : j = 0 := by have := (List.getElem?_eq_some_iff.1 hj).1; simp at this; exact this
    subst hj0
    have := h6 i u (by rw [List.getElem?_eq_getElem (by omega)]; exact hj)
    show w.cell? ⟨b, off + i * 1 + 0, none⟩ = some u
    rw [Nat.mul_one, Nat.add_zero]
    exact this
end Go.Proofs.Ytkmemlnkijinlaa.eng

/- BoE -/
namespace Go.Proofs.Ytkmemlnkijinlaa.eng
open Go.RowKit kit mix
def boC (b : Bool) : List Value := [.bool b]
theorem BoE_len (a : Bool) : (boC a).length = 1 := rfl
end Go.Proofs.Ytkmemlnkijinlaa.eng

