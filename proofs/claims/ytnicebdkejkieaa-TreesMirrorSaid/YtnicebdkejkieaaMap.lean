/- Maps that the call has made: what they hold as a function of keys, and how many keys there are. -/
import Derived.Test.YtnicebdkejkieaaShp
import Derived.Maps.OwnSet
import Derived.DeepKeys4
import Derived.WideKeyEntry
namespace Go.Proofs.Ytnicebdkejkieaa.eng
open Go.RowKit kit mix
open Go.WideMaps (KeyLaw)
def heldR (v : Value) : Option (DataW Value × List MemPlace) := some (.held v, [])
/-- keys of a map -/
structure KeyT (P : Program) (k : TypeId) (κ : Type) where
  kv : κ → Value
  ok : κ → Prop
  law : KeyLaw P k
  key : ∀ x, ok x → ∃ l, keyOf P k (kv x) = some l
  inj : ∀ x y, kv x = kv y → x = y
section
variable {P : Program} {k : TypeId} {κ : Type}
theorem KeyT.keyed (K : KeyT P k κ) : Maps.Keyed P k := Maps.Keyed.of_law K.law
variable (K : KeyT P k κ)
def MapIs (D : DataW Value) (m : κ → Option Value) (n : Nat) : Prop :=
  Maps.size D = n ∧ ∀ x l, K.ok x → keyOf P k (K.kv x) = some l → match m x with | some v => Maps.has D l = true ∧ (∀ z, D.atKey l z = .held v) | none => Maps.has D l = false
def mapO (g : Nat) (m : κ → Option Value) (n : Nat) : Own :=
  ⟨some g, fun _ => False, fun w => ∃ D, w.ownsMap P k heldR g n D ∧ MapIs K D m n, fun w ⟨D, h, _⟩ q hq => by simp only [Option.some.injEq, or_false] at hq; subst hq; exact h.lt,
    fun w w' ⟨D, ⟨es, clock, hb, h⟩, h2⟩ _ hk => ⟨D, ⟨es, clock, (hk g (.inl rfl)).trans hb, h⟩, h2⟩⟩
theorem map_tight {w : World} {R : Value → Option (DataW Value × List MemPlace)} {b n : Nat} {D : DataW Value} (h : w.ownsMap P k R b n D) : w.ownsMap P k R b (Maps.size D) D := by
  obtain ⟨es, clock, hb, F, hs, rfl⟩ := h
  exact ⟨es, clock, hb, F, by simp [Maps.size, length_sorted], rfl⟩
theorem mapIs_nil : MapIs K (.map []) (fun _ => none) 0 := ⟨rfl, fun _ _ _ _ => rfl⟩
theorem mapIs_put [DecidableEq κ] {w : World} {g n : Nat} {D : DataW Value} {m : κ → Option Value} (ho : w.ownsMap P k heldR g n D) (h : MapIs K D m n) {x : κ} {l : Lit} (hx : K.ok x) (hl : keyOf P k (K.kv x) = some l) (v : Value) :
    MapIs K (D.put l (.held v)) (fun y => if y = x then some v else m y) (if (m x).isSome then n else n + 1) := by
  have hk := K.keyed.key hl
  have ht := ho.tidy K.keyed
  refine ⟨?_, fun y l' hy hl' => ?_⟩
  · have h2 := h.2 x l hx hl
    rw [Maps.size_put ht]
    cases e : m x with
    | none => rw [e] at h2; rw [h2]; simp [h.1]
    | some u => rw [e] at h2; rw [h2.1]; simp [h.1]
  · by_cases e : y = x
    · subst e
      rw [hl] at hl'
      simp only [Option.some.injEq] at hl'; subst hl'
      simp only [if_true]
      exact ⟨Maps.has_put_same ht.isMap hk _, fun z => Maps.atKey_put_same ht.isMap hk _ _⟩
    · have hne : l' ≠ l := fun e' => e (K.inj _ _ (K.keyed.inj (by rw [← e']; exact hl') hl))
      simp only [if_neg e]
      have h2 := h.2 y l' hy hl'
      rw [Maps.has_put_other hne]
      cases e2 : m y with
      | none => rw [e2] at h2; exact h2
      | some u => rw [e2] at h2; exact ⟨h2.1, fun z => by rw [Maps.atKey_put_other hne]; exact h2.2 z⟩
theorem look_of {D : DataW Value} {m : κ → Option Value} {n : Nat} (h : MapIs K D m n) {x : κ} {l : Lit} (hx : K.ok x) (hl : keyOf P k (K.kv x) = some l) (z : Value) : D.atKey l (.held z) = .held ((m x).getD z) ∧ Maps.has D l = (m x).isSome := by
  have h2 := h.2 x l hx hl
  cases e : m x with
  | none => rw [e] at h2; exact ⟨Maps.atKey_of_not_has h2 _, h2⟩
  | some u => rw [e] at h2; exact ⟨h2.2 _, h2.1⟩
section
variable {W : Base} {fr : Fr} {L : List Own} {Q : Exit → Act → World → Prop} {ops : Array Oper} {rest : List Oper} {n d : Nat} {dst : Option Tmp} {ty : TypeId} {pos : String} {after : Array Edge} {guard : Option (Nat × Bool)} {i g c : Nat} {t e : TypeId} {m : κ → Option Value} {x : κ} {z : Value} {xm xk xv : Operand}
theorem rr_look (ht : P.underlying t = some (.map k e)) (hz : ∀ w, (zeroValue e).run P w = .ok z w) (hi : L[i]? = some (mapO K g m c)) (hm : ev fr xm = some (.map (some g))) (hk : ev fr xk = some (K.kv x)) (hx : K.ok x) : RR P n W ⟨dst, .lookup t xm xk false, ty, pos, after, guard⟩ fr L ((m x).getD z) := .mk fun a w hr hw => by
  obtain ⟨D, ho, h⟩ := hw.get hi
  obtain ⟨l, hl⟩ := K.key x hx
  obtain ⟨v, ps, hrun, hv⟩ := ho.lookup K.keyed ht (hz w) (zd := .held z) (zp := []) rfl hl
  have h2 := (look_of K h hx hl z).1
  simp only [heldR, Option.some.injEq, Prod.mk.injEq] at hv
  rw [h2] at hv
  have hv1 : v = (m x).getD z := by simpa using hv.1
  subst hv1
  simp [execOp, hr.ev hm, hr.ev hk, hrun, Result.andThen]
theorem rr_lookOk (ht : P.underlying t = some (.map k e)) (hz : ∀ w, (zeroValue e).run P w = .ok z w) (hi : L[i]? = some (mapO K g m c)) (hm : ev fr xm = some (.map (some g))) (hk : ev fr xk = some (K.kv x)) (hx : K.ok x) : RR P n W ⟨dst, .lookup t xm xk true, ty, pos, after, guard⟩ fr L (.tuple #[(m x).getD z, .bool (m x).isSome]) := .mk fun a w hr hw => by
  obtain ⟨D, ho, h⟩ := hw.get hi
  obtain ⟨l, hl⟩ := K.key x hx
  obtain ⟨v, ps, hrun, hv⟩ := ho.look_ok K.keyed ht (hz w) (zd := .held z) (zp := []) rfl hl
  have h2 := look_of K h hx hl z
  simp only [heldR, Option.some.injEq, Prod.mk.injEq] at hv
  rw [h2.1] at hv
  rw [h2.2] at hrun
  have hv1 : v = (m x).getD z := by simpa using hv.1
  subst hv1
  simp [execOp, hr.ev hm, hr.ev hk, hrun, Result.andThen]
theorem rr_maplen (ht : P.underlying t = some (.map k e)) (hi : L[i]? = some (mapO K g m c)) (hm : ev fr xm = some (.map (some g))) : RR P n W ⟨dst, .call { callee := .builtin .len, args := #[xm], argTypes := #[t] }, ty, pos, after, guard⟩ fr L (.int .i64 c) := .mk fun a w hr hw => by
  obtain ⟨D, ho, h⟩ := hw.get hi
  have hrun := ho.len ht ty
  rw [h.1] at hrun
  simp [BigFrame.execOp_builtin, BigFrame.builtin_len, hr.ev hm, hrun]
theorem TL_map (hn : Nat.blt d n = true) (h : ∀ g, TL P n W ops Q rest ((d, .map (some g)) :: fr) (L ++ [mapO K g (fun _ => none) 0])) :
    TL P n W ops Q (⟨some d, .makeMap t none, ty, pos, after, none⟩ :: rest) fr L := TL_any rfl fun a w hr hm KK hK => by
  have e1 : (execOp a.eval ⟨some d, .makeMap t none, ty, pos, after, none⟩).run P w = .ok (.value (.map (some w.heap.size))) (w.alloc (.map #[] 0)) := by
    simp [execOp, run_makeMap, Result.andThen]
  unfold Oper.wp; rw [e1]
  exact hK _ _ ((h w.heap.size).go _ _ (hr.put hn _) (hm.append (gr_alloc w _) (Owns.one ⟨.map [], World.ownsMap_made w P k heldR, mapIs_nil K⟩ fun q hq => by simp only [mapO, Option.some.injEq] at hq; omega)))
theorem map_put [DecidableEq κ] {w : World} (ht : P.underlying t = some (.map k e)) (h : (mapO K g m c).holds w) (hx : K.ok x) (hc : c ≤ 1152921504606846976) (v : Value) :
    ∃ w', (Instr.mapUpdate t (.map (some g)) (K.kv x) v).run P w = .ok () w' ∧ (mapO K g (fun y => if y = x then some v else m y) (if (m x).isSome then c else c + 1)).holds w' ∧ w.grownBy w' (some g) := by
  obtain ⟨D, ho, h⟩ := h
  obtain ⟨l, hl⟩ := K.key x hx
  obtain ⟨w', hrun, ho', hg⟩ := ho.update K.keyed ht (by unfold maxLen; omega) (val := v) (d := .held v) (ps := []) hl rfl
  have hp := mapIs_put K ho h hx hl v
  exact ⟨w', hrun, ⟨_, by have := map_tight ho'; rwa [hp.1] at this, hp⟩, hg⟩
theorem TL_mapSet [DecidableEq κ] {v : Value} (ht : P.underlying t = some (.map k e)) (hi : L[i]? = some (mapO K g m c)) (hm : ev fr xm = some (.map (some g))) (hk : ev fr xk = some (K.kv x)) (hv : ev fr xv = some v) (hx : K.ok x) (hc : c ≤ 1152921504606846976)
    (h : TL P n W ops Q rest fr (L.set i (mapO K g (fun y => if y = x then some v else m y) (if (m x).isSome then c else c + 1)))) :
    TL P n W ops Q (⟨none, .mapUpdate t xm xk xv, ty, pos, after, none⟩ :: rest) fr L := TL_any rfl fun a w hr hw KK hK => by
  obtain ⟨w', hrun, ho', hg⟩ := map_put K ht (hw.get hi) hx hc v
  have e1 : (execOp a.eval ⟨none, .mapUpdate t xm xk xv, ty, pos, after, none⟩).run P w = .ok .skip w' := by
    simp [execOp, hr.ev hm, hr.ev hk, hr.ev hv, hrun, Result.andThen]
  unfold Oper.wp; rw [e1]
  exact hK _ _ (h.go _ _ (hr.put_none undef) (hw.turn hi hg ho' fun q hq => .inl hq))
end
/-! maps with a value for every key: what is not there counts as zero; b bounds how many keys there are -/
def mapT (g : Nat) (z : Value) (f : κ → Value) (b : Nat) : Own :=
  ⟨some g, fun _ => False, fun w => ∃ m n, n ≤ b ∧ (mapO K g m n).holds w ∧ ∀ x, K.ok x → (m x).getD z = f x, fun w ⟨m, n, _, h, _⟩ q hq => (mapO K g m n).lt w h q hq,
    fun w w' ⟨m, n, h1, h, h2⟩ hs hk => ⟨m, n, h1, (mapO K g m n).stay w w' h hs hk, h2⟩⟩
section
variable {W : Base} {fr : Fr} {L : List Own} {Q : Exit → Act → World → Prop} {ops : Array Oper} {rest : List Oper} {n d : Nat} {dst : Option Tmp} {ty : TypeId} {pos : String} {after : Array Edge} {guard : Option (Nat × Bool)} {i g b : Nat} {t e : TypeId} {f f' : κ → Value} {x : κ} {z v : Value} {xm xk xv : Operand}
theorem run_lookT {w : World} (ht : P.underlying t = some (.map k e)) (hz : ∀ w, (zeroValue e).run P w = .ok z w) (h : (mapT K g z f b).holds w) (hx : K.ok x) : (Instr.lookup t (.map (some g)) (K.kv x) false).run P w = .ok (f x) w := by
  obtain ⟨m, n, _, ⟨D, ho, hi⟩, hf⟩ := h
  obtain ⟨l, hl⟩ := K.key x hx
  obtain ⟨v, ps, hrun, hv⟩ := ho.lookup K.keyed ht (hz w) (zd := .held z) (zp := []) rfl hl
  have h2 := (look_of K hi hx hl z).1
  simp only [heldR, Option.some.injEq, Prod.mk.injEq] at hv
  rw [h2, hf x hx] at hv
  have hv1 : v = f x := by simpa using hv.1
  rw [← hv1]; exact hrun
/-- a map that is known, whichever way -/
theorem rr_lookM (ht : P.underlying t = some (.map k e)) (hz : ∀ w, (zeroValue e).run P w = .ok z w) (hh : ∀ w, Mem W L w → (mapT K g z f b).holds w) (hm : ev fr xm = some (.map (some g))) (hk : ev fr xk = some (K.kv x)) (hx : K.ok x) (hv : f x = v) : RR P n W ⟨dst, .lookup t xm xk false, ty, pos, after, guard⟩ fr L v := .mk fun a w hr hw => by
  subst hv
  have hrun := run_lookT K ht hz (hh w hw) hx
  simp [execOp, hr.ev hm, hr.ev hk, hrun, Result.andThen]
theorem rr_lookT (ht : P.underlying t = some (.map k e)) (hz : ∀ w, (zeroValue e).run P w = .ok z w) (hi : L[i]? = some (mapT K g z f b)) (hm : ev fr xm = some (.map (some g))) (hk : ev fr xk = some (K.kv x)) (hx : K.ok x) (hv : f x = v) : RR P n W ⟨dst, .lookup t xm xk false, ty, pos, after, guard⟩ fr L v :=
  rr_lookM K ht hz (fun _ hw => hw.get hi) hm hk hx hv
theorem TL_mapT (hn : Nat.blt d n = true) (h : ∀ g, TL P n W ops Q rest ((d, .map (some g)) :: fr) (L ++ [mapT K g z (fun _ => z) 0])) :
    TL P n W ops Q (⟨some d, .makeMap t none, ty, pos, after, none⟩ :: rest) fr L := TL_any rfl fun a w hr hm KK hK => by
  have e1 : (execOp a.eval ⟨some d, .makeMap t none, ty, pos, after, none⟩).run P w = .ok (.value (.map (some w.heap.size))) (w.alloc (.map #[] 0)) := by
    simp [execOp, run_makeMap, Result.andThen]
  unfold Oper.wp; rw [e1]
  exact hK _ _ ((h w.heap.size).go _ _ (hr.put hn _) (hm.append (gr_alloc w _) (Owns.one ⟨fun _ => none, 0, Nat.le_refl _, ⟨.map [], World.ownsMap_made w P k heldR, mapIs_nil K⟩, fun _ _ => rfl⟩ fun q hq => by simp only [mapT, Option.some.injEq] at hq; omega)))
theorem mapT_put [DecidableEq κ] {w : World} (ht : P.underlying t = some (.map k e)) (h : (mapT K g z f b).holds w) (hx : K.ok x) (hc : b ≤ 1152921504606846976) (hf : ∀ y, K.ok y → f' y = if y = x then v else f y) :
    ∃ w', (Instr.mapUpdate t (.map (some g)) (K.kv x) v).run P w = .ok () w' ∧ (mapT K g z f' (b + 1)).holds w' ∧ w.grownBy w' (some g) := by
  obtain ⟨m, n, h1, h2, h3⟩ := h
  obtain ⟨w', hrun, ho, hg⟩ := map_put K ht h2 hx (by omega) v
  refine ⟨w', hrun, ⟨_, _, ?_, ho, fun y hy => ?_⟩, hg⟩
  · split <;> omega
  · rw [hf y hy]
    by_cases e : y = x
    · simp [e]
    · simp only [if_neg e]; exact h3 y hy
theorem TL_mapSetT [DecidableEq κ] (f' : κ → Value) (ht : P.underlying t = some (.map k e)) (hi : L[i]? = some (mapT K g z f b)) (hm : ev fr xm = some (.map (some g))) (hk : ev fr xk = some (K.kv x)) (hv : ev fr xv = some v) (hx : K.ok x) (hc : b ≤ 1152921504606846976) (hf : ∀ y, K.ok y → f' y = if y = x then v else f y)
    (h : TL P n W ops Q rest fr (L.set i (mapT K g z f' (b + 1)))) :
    TL P n W ops Q (⟨none, .mapUpdate t xm xk xv, ty, pos, after, none⟩ :: rest) fr L := TL_any rfl fun a w hr hw KK hK => by
  obtain ⟨w', hrun, ho', hg⟩ := mapT_put K ht (hw.get hi) hx hc hf
  have e1 : (execOp a.eval ⟨none, .mapUpdate t xm xk xv, ty, pos, after, none⟩).run P w = .ok .skip w' := by
    simp [execOp, hr.ev hm, hr.ev hk, hr.ev hv, hrun, Result.andThen]
  unfold Oper.wp; rw [e1]
  exact hK _ _ (h.go _ _ (hr.put_none undef) (hw.turn hi hg ho' fun q hq => .inl hq))
end
end
end Go.Proofs.Ytnicebdkejkieaa.eng
namespace Go.Proofs.Ytnicebdkejkieaa.eng
open Go.RowKit kit mix
theorem rr_nilc {P : Program} {n : Nat} {W : Base} {fr : Fr} {L : List Own} {dst : Option Tmp} {ty : TypeId} {pos : String} {after : Array Edge} {guard : Option (Nat × Bool)} {x : Operand} {a : Addr} (hx : ev fr x = some (.pointer (some a))) : RR P n W ⟨dst, .nilCheck x, ty, pos, after, guard⟩ fr L (.pointer (some a)) := .mk fun act w hr _ => by
  simp [execOp, hr.ev hx]
end Go.Proofs.Ytnicebdkejkieaa.eng
namespace Go.Proofs.Ytnicebdkejkieaa.eng
open Go.RowKit kit mix
section
variable {P : Program} {n : Nat} {W : Base} {fr : Fr} {L : List Own} {Q : Exit → Act → World → Prop} {ops : Array Oper} {rest : List Oper} {d : Nat} {ty : TypeId} {pos : String} {after : Array Edge}
/-- 'make([]T, m)', T of one cell: an own row -/
theorem TL_makeRow {t e : TypeId} {x y : Operand} {bytes m : Nat} {k k' : IntKind} {z : Value} [ElC P t e 1 bytes] [ZeroC P e #[z]] (hx : ev fr x = some (.int k (m : Int))) (hy : ev fr y = some (.int k' (m : Int))) (hb : bytes * m ≤ 281474976710656) (h63 : m ≤ 9223372036854775807) (hn : Nat.blt d n = true)
    (h : ∀ g, TL P n W ops Q rest ((d, .slice (some ⟨g, 0, none⟩) m m) :: fr) (L ++ [rowO e 1 (.slice (some ⟨g, 0, none⟩) m m) m (List.replicate m z)])) : TL P n W ops Q (⟨some d, .makeSlice t x y, ty, pos, after, none⟩ :: rest) fr L :=
  TL_makeB hx hy (Nat.le_refl _) hb h63 hn fun g => TL_toRowN (i := L.length) 1 (List.getElem?_concat_length ..) (by rw [size_madeCells]) (Nat.le_refl _) h63 (by
    have e1 : (madeCells #[z] (m * 1)).toList.take (m * 1) = List.replicate m z := by
      rw [made1, Nat.mul_one, List.take_of_length_le (by simp)]
    rw [e1, List.set_append_right _ _ (Nat.le_refl _), Nat.sub_self]
    exact h g)
end
end Go.Proofs.Ytnicebdkejkieaa.eng
namespace Go.Proofs.Ytnicebdkejkieaa.eng
open Go.RowKit kit mix
section
variable {P : Program} {n : Nat} {W : Base} {fr : Fr} {L : List Own} {Q : Exit → Act → World → Prop} {ops : Array Oper} {rest : List Oper}
/-- something owned, told otherwise -/
theorem Mem.weak {w : World} {i : Nat} {o : Own} (o' : Own) (h : Mem W L w) (hi : L[i]? = some o) (hh : ∀ w, o.holds w → o'.holds w) (hb : ∀ k, o'.blk = some k → o.blk = some k) (hmo : ∀ k, o'.more k → o.foot k := by intro k hk; exact False.elim hk) : Mem W (L.set i o') w :=
  h.turn hi ⟨rfl, rfl, rfl, Nat.le_refl _, fun _ _ _ => rfl⟩ (hh w (h.get hi)) (fun k hk => .inl (hb k hk)) hmo
theorem T_weak {c : Code} {i : Nat} {o : Own} (o' : Own) (hi : L[i]? = some o) (hh : ∀ w, o.holds w → o'.holds w) (hb : ∀ k, o'.blk = some k → o.blk = some k) (hmo : ∀ k, o'.more k → o.foot k) (h : T P n W c Q fr (L.set i o')) : T P n W c Q fr L := .mk fun a w hr hm => h.go a w hr (hm.weak o' hi hh hb hmo)
theorem TL_weak {i : Nat} {o : Own} (o' : Own) (hi : L[i]? = some o) (hh : ∀ w, o.holds w → o'.holds w) (hb : ∀ k, o'.blk = some k → o.blk = some k) (hmo : ∀ k, o'.more k → o.foot k) (h : TL P n W ops Q rest fr (L.set i o')) : TL P n W ops Q rest fr L := .mk fun a w hr hm => h.go a w hr (hm.weak o' hi hh hb hmo)
theorem E_weak {e : Exit} {i : Nat} {o : Own} (o' : Own) (hi : L[i]? = some o) (hh : ∀ w, o.holds w → o'.holds w) (hb : ∀ k, o'.blk = some k → o.blk = some k) (hmo : ∀ k, o'.more k → o.foot k) (h : E n W e Q fr (L.set i o')) : E n W e Q fr L := .mk fun a w hr hm => h.go a w hr (hm.weak o' hi hh hb hmo)
end
theorem mapT_weak {P : Program} {k : TypeId} {κ : Type} {K : KeyT P k κ} {g b b' : Nat} {z : Value} {f f' : κ → Value} (hb : b ≤ b') (hf : ∀ x, K.ok x → f' x = f x) (w : World) (h : (mapT K g z f b).holds w) : (mapT K g z f' b').holds w := by
  obtain ⟨m, n, h1, h2, h3⟩ := h
  exact ⟨m, n, by omega, h2, fun x hx => by rw [hf x hx]; exact h3 x hx⟩
end Go.Proofs.Ytnicebdkejkieaa.eng
namespace Go.Proofs.Ytnicebdkejkieaa.eng
open Go.RowKit kit mix
section
variable {P : Program} {n : Nat} {W : Base} {fr : Fr} {L : List Own} {Q : Exit → Act → World → Prop} {ops : Array Oper} {rest : List Oper}
/-- something owned, seen as something else in no more memory -/
theorem Mem.reown {w : World} {i : Nat} {o : Own} (o' : Own) (h : Mem W L w) (hi : L[i]? = some o) (hh : ∀ w, o.holds w → o'.holds w) (hf : ∀ k, o'.foot k → o.foot k) : Mem W (L.set i o') w := by
  have hlen : i < L.length := (List.getElem?_eq_some_iff.1 hi).1
  have hoi := h.owns.all i o hi
  refine ⟨h.low, fun j q hj => ?_, fun j j' q q' hij hj hj' k hk hk' => ?_⟩
  · by_cases e : i = j
    · subst e
      rw [List.getElem?_set_self hlen] at hj
      simp only [Option.some.injEq] at hj; subst hj
      exact ⟨hh w hoi.1, fun k hk => hoi.2 k (hf k hk)⟩
    · rw [List.getElem?_set_ne e] at hj
      exact h.owns.all j q hj
  · by_cases e : i = j
    · subst e
      rw [List.getElem?_set_self hlen] at hj
      rw [List.getElem?_set_ne hij] at hj'
      simp only [Option.some.injEq] at hj; subst hj
      exact h.owns.apart i j' o q' hij hi hj' k (hf k hk) hk'
    · rw [List.getElem?_set_ne e] at hj
      by_cases e' : i = j'
      · subst e'
        rw [List.getElem?_set_self hlen] at hj'
        simp only [Option.some.injEq] at hj'; subst hj'
        exact h.owns.apart j i q o hij hj hi k hk (hf k hk')
      · rw [List.getElem?_set_ne e'] at hj'
        exact h.owns.apart j j' q q' hij hj hj' k hk hk'
theorem T_reown {c : Code} {i : Nat} {o : Own} (o' : Own) (hi : L[i]? = some o) (hh : ∀ w, o.holds w → o'.holds w) (hf : ∀ k, o'.foot k → o.foot k) (h : T P n W c Q fr (L.set i o')) : T P n W c Q fr L := .mk fun a w hr hm => h.go a w hr (hm.reown o' hi hh hf)
theorem TL_reown {i : Nat} {o : Own} (o' : Own) (hi : L[i]? = some o) (hh : ∀ w, o.holds w → o'.holds w) (hf : ∀ k, o'.foot k → o.foot k) (h : TL P n W ops Q rest fr (L.set i o')) : TL P n W ops Q rest fr L := .mk fun a w hr hm => h.go a w hr (hm.reown o' hi hh hf)
theorem E_reown {e : Exit} {i : Nat} {o : Own} (o' : Own) (hi : L[i]? = some o) (hh : ∀ w, o.holds w → o'.holds w) (hf : ∀ k, o'.foot k → o.foot k) (h : E n W e Q fr (L.set i o')) : E n W e Q fr L := .mk fun a w hr hm => h.go a w hr (hm.reown o' hi hh hf)
end
end Go.Proofs.Ytnicebdkejkieaa.eng
