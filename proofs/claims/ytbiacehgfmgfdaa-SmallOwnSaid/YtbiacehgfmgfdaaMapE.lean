/- 'm[k] op= v': an entry is laid, and stored behind it. -/
import Derived.Test.YtbiacehgfmgfdaaMgB
namespace Go.Proofs.Ytbiacehgfmgfdaa.eng
open Go.RowKit kit mix
open Go.WideElems (Fit findIdx_arr findIdx_born modify_last)
open Go.ChangeMaps Go.MapKept Go.WideShapes
section
variable {P : Program} {k : TypeId} {κ : Type} (K : KeyT P k κ)
theorem modify_same {α : Type} (f : α → α) : ∀ (l : List α) (j : Nat) (a : α), l[j]? = some a → f a = a → l.modify j f = l
  | [], _, _, h, _ => by simp at h
  | b :: r, 0, a, h, hf => by simp at h; subst h; simp [hf]
  | b :: r, j + 1, a, h, hf => by simp at h; simp [List.modify_succ_cons, modify_same f r j a h hf]
theorem modify_eq {α : Type} (f f' : α → α) : ∀ (l : List α) (j : Nat) (a : α), l[j]? = some a → f a = f' a → l.modify j f = l.modify j f'
  | [], _, _, h, _ => by simp at h
  | b :: r, 0, a, h, hf => by simp at h; subst h; simp [hf]
  | b :: r, j + 1, a, h, hf => by simp at h; simp [List.modify_succ_cons, modify_eq f f' r j a h hf]
/-- an entry has been laid for x; what is not there counts as zero -/
def entO (g : Nat) (x : κ) (st : Nat) (z : Value) (f : κ → Value) (b : Nat) : Own :=
  ⟨some g, fun _ => False, fun w => (mapT K g z f b).holds w ∧ ∃ es clock e0, w.heap[g]? = some (.map es clock) ∧ e0 ∈ es.toList ∧ e0.key = K.kv x ∧ e0.born = st,
    fun w h q hq => (mapT K g z f b).lt w h.1 q hq,
    fun w w' ⟨h1, es, clock, e0, h2, h3⟩ hs hk => ⟨(mapT K g z f b).stay w w' h1 hs hk, es, clock, e0, (hk g (.inl rfl)).trans h2, h3⟩⟩
theorem set_self_block {w : World} {g : Nat} {es : Array MapEntry} {c : Nat} (h : w.heap[g]? = some (.map es c)) : setBlock w g (.map es c) = w := by
  have e : w.heap.setIfInBounds g (.map es c) = w.heap := by
    apply Array.ext_getElem?
    intro i
    by_cases hi : i = g
    · subst hi; exact (heap_setBlock_same h _).trans h.symm
    · exact heap_setBlock_other h _ hi
  unfold setBlock; rw [e]
variable [DecidableEq κ]
theorem entry_run {w : World} {t e : TypeId} {g b : Nat} {f : κ → Value} {x : κ} {z : Value} (ht : P.underlying t = some (.map k e)) (hz : ∀ u : World, (zeroValue e).run P u = .ok z u) (h : (mapT K g z f b).holds w) (hx : K.ok x) (hc : b ≤ 1152921504606846976) :
    ∃ st w1, (Instr.mapEntry t (.map (some g)) (K.kv x)).run P w = .ok (.tuple #[f x, goInt (st : Nat)]) w1 ∧ w.grownBy w1 (some g) ∧ (entO K g x st z f (b + 1)).holds w1 := by
  have hlook := run_lookT K (f := f) ht hz h hx
  obtain ⟨l, hkey⟩ := K.key x hx
  obtain ⟨m, n, h1, ⟨D, ⟨es, clock, hb, F, hs, hD⟩, hi⟩, h3⟩ := id h
  rcases K.law.find w hkey es.toList F.keys with ⟨k1, k2⟩ | ⟨j, e0, k1, k2, k3⟩
  · have hfx : f x = z := by
      have : (Instr.lookup t (.map (some g)) (K.kv x) false).run P w = .ok z w := by
        simp [Instr.lookup, run_underlying ht, MapKept.run_getObj_map hb, K.law.check w _ hkey, k1, hz, Result.andThen]
      rw [hlook] at this
      simpa using this
    obtain ⟨w', r1, r2, r3⟩ := mapT_put K (f' := f) (v := z) ht h hx hc (fun y _ => by by_cases e : y = x <;> simp [e, hfx])
    have r1' : (Instr.mapUpdate t (.map (some g)) (K.kv x) z).run P w = .ok () (setBlock w g (.map (es.push ⟨K.kv x, z, clock⟩) (clock + 1))) := by
      simp [Instr.mapUpdate, run_underlying ht, MapKept.run_getObj_map hb, K.law.check w false hkey, k1, MapKept.run_setObj_map _ hb, Result.andThen, setBlock]
    have ew : w' = setBlock w g (.map (es.push ⟨K.kv x, z, clock⟩) (clock + 1)) := by
      rw [r1] at r1'; simpa using r1'
    refine ⟨clock, w', ?_, r3, r2, es.push ⟨K.kv x, z, clock⟩, clock + 1, ⟨K.kv x, z, clock⟩, ?_, by simp, rfl, rfl⟩
    · rw [ew, hfx]
      simp [Instr.mapEntry, run_underlying ht, MapKept.run_getObj_map hb, K.law.check w false hkey, k1, hz, MapKept.run_setObj_map _ hb, Result.andThen, setBlock]
    · rw [ew]; exact heap_setBlock_same hb _
  · have hj : es[j]? = some e0 := by simpa using k2
    have hfx : f x = e0.val := by
      have : (Instr.lookup t (.map (some g)) (K.kv x) false).run P w = .ok e0.val w := by
        simp [Instr.lookup, run_underlying ht, MapKept.run_getObj_map hb, K.law.check w _ hkey, k1, hz, Result.andThen]
      rw [hlook] at this
      simpa using this
    have hsame : es.modify j (fun e => { e with key := K.kv x }) = es := by
      apply Array.ext'
      rw [Array.toList_modify]
      exact modify_same _ _ _ _ k2 (by rw [← k3])
    refine ⟨e0.born, w, ?_, ⟨rfl, rfl, rfl, Nat.le_refl _, fun _ _ _ => rfl⟩, mapT_weak (by omega) (fun _ _ => rfl) w h, es, clock, e0, hb, List.mem_of_getElem? k2, k3, rfl⟩
    rw [hfx]
    have := set_self_block hb
    simp [Instr.mapEntry, run_underlying ht, MapKept.run_getObj_map hb, K.law.check w false hkey, k1, hj, k3, K.law.stays w hkey, hsame, MapKept.run_setObj_map _ hb, Result.andThen]
    exact this
theorem entry_set {w : World} {t e : TypeId} {g b st : Nat} {f f' : κ → Value} {x : κ} {z v : Value} (ht : P.underlying t = some (.map k e)) (h : (entO K g x st z f b).holds w) (hx : K.ok x) (hc : b ≤ 1152921504606846976) (hf : ∀ y, K.ok y → f' y = if y = x then v else f y) :
    ∃ w', (Instr.entryStore t (.map (some g)) (goInt (st : Nat)) v).run P w = .ok () w' ∧ (mapT K g z f' (b + 1)).holds w' ∧ w.grownBy w' (some g) := by
  obtain ⟨h, es', clock', e1, hb', he1, hk1, hs1⟩ := h
  obtain ⟨w', r1, r2, r3⟩ := mapT_put K (f' := f') (v := v) ht h hx hc hf
  refine ⟨w', ?_, r2, r3⟩
  rw [← r1]
  obtain ⟨l, hkey⟩ := K.key x hx
  obtain ⟨m, n, h1, ⟨D, ⟨es, clock, hb, F, hs, hD⟩, hi⟩, h3⟩ := h
  rw [hb] at hb'
  simp only [Option.some.injEq, Obj.map.injEq] at hb'
  obtain ⟨rfl, rfl⟩ := hb'
  obtain ⟨s1, s2, s3⟩ := F.stamped
  rcases K.law.find w hkey es.toList F.keys with ⟨k1, k2⟩ | ⟨j, e0, k1, k2, k3⟩
  · exact absurd hk1 (k2 e1 he1)
  · have hj : es[j]? = some e0 := by simpa using k2
    obtain ⟨i, hi'⟩ := List.getElem?_of_mem he1
    have hij : i = j := by
      have hi2 := (List.getElem?_eq_some_iff.1 hi')
      have hj2 := (List.getElem?_eq_some_iff.1 k2)
      obtain ⟨li, ei⟩ := hi2
      obtain ⟨lj, ej⟩ := hj2
      refine (List.getElem_inj (h₀ := by simpa using li) (h₁ := by simpa using lj) s3).1 ?_
      simp only [List.getElem_map, ei, ej, hk1, k3]
    subst hij
    have e01 : e1 = e0 := by rw [hi'] at k2; simpa using k2
    subst e01
    subst hs1
    have hidx : es.findIdx? (fun e => ((e.born : Nat) : Int) == ((e1.born : Nat) : Int)) = some i := by
      rw [findIdx_arr]
      exact findIdx_born s2 k2
    have hmod : es.modify i (fun e => { e with val := v }) = es.modify i (fun e' => { e' with key := K.kv x, val := v }) := by
      apply Array.ext'
      rw [Array.toList_modify, Array.toList_modify]
      exact modify_eq _ _ _ _ _ k2 (by rw [← k3])
    simp [Instr.entryStore, Instr.mapUpdate, run_underlying ht, MapKept.run_getObj_map hb, asInt, asIntOf, goInt, hidx, hmod, K.law.check w false hkey, k1, hj, k3, K.law.stays w hkey, MapKept.run_setObj_map _ hb, Result.andThen]
section
variable {W : Base} {fr : Fr} {L : List Own} {Q : Exit → Act → World → Prop} {ops : Array Oper} {rest : List Oper} {n d : Nat} {dst : Option Tmp} {ty : TypeId} {pos : String} {after : Array Edge} {guard : Option (Nat × Bool)} {i g b : Nat} {t e : TypeId} {f : κ → Value} {x : κ} {z : Value} {xm xk xv xs : Operand}
theorem TL_entry (ht : P.underlying t = some (.map k e)) (hz : ∀ u : World, (zeroValue e).run P u = .ok z u) (hi : L[i]? = some (mapT K g z f b)) (hm : ev fr xm = some (.map (some g))) (hk : ev fr xk = some (K.kv x)) (hx : K.ok x) (hc : b ≤ 1152921504606846976) (hn : Nat.blt d n = true)
    (h : ∀ st : Nat, TL P n W ops Q rest ((d, .tuple #[f x, .int .i64 (st : Int)]) :: fr) (L.set i (entO K g x st z f (b + 1)))) :
    TL P n W ops Q (⟨some d, .mapEntry t xm xk, ty, pos, after, none⟩ :: rest) fr L := TL_any rfl fun a w hr hw KK hK => by
  obtain ⟨st, w1, h1, h2, h3⟩ := entry_run K ht hz (hw.get hi) hx hc
  have e1 : (execOp a.eval ⟨some d, .mapEntry t xm xk, ty, pos, after, none⟩).run P w = .ok (.value (.tuple #[f x, .int .i64 (st : Int)])) w1 := by
    simp [execOp, hr.ev hm, hr.ev hk, h1, goInt, Result.andThen]
  unfold Oper.wp; rw [e1]
  exact hK _ _ ((h st).go _ _ (hr.put hn _) (hw.turn hi h2 h3 fun q hq => .inl hq))
theorem TL_entSet {st : Nat} {v : Value} (f' : κ → Value) (ht : P.underlying t = some (.map k e)) (hi : L[i]? = some (entO K g x st z f b)) (hm : ev fr xm = some (.map (some g))) (hs : ev fr xs = some (.int .i64 (st : Int))) (hv : ev fr xv = some v) (hx : K.ok x) (hc : b ≤ 1152921504606846976) (hf : ∀ y, K.ok y → f' y = if y = x then v else f y)
    (h : TL P n W ops Q rest fr (L.set i (mapT K g z f' (b + 1)))) :
    TL P n W ops Q (⟨none, .entryStore t xm xs xv, ty, pos, after, none⟩ :: rest) fr L := TL_any rfl fun a w hr hw KK hK => by
  obtain ⟨w1, h1, h2, h3⟩ := entry_set K ht (hw.get hi) hx hc hf
  have e1 : (execOp a.eval ⟨none, .entryStore t xm xs xv, ty, pos, after, none⟩).run P w = .ok .skip w1 := by
    have h1' : (Instr.entryStore t (.map (some g)) (.int .i64 (st : Int)) v).run P w = .ok () w1 := h1
    simp [execOp, hr.ev hm, hr.ev hs, hr.ev hv, h1', Result.andThen]
  unfold Oper.wp; rw [e1]
  exact hK _ _ (h.go _ _ (hr.put_none undef) (hw.turn hi h3 h2 fun q hq => .inl hq))
omit [DecidableEq κ] in
/-- a lookup while an entry is under way -/
theorem rr_lookE {st : Nat} {v : Value} (ht : P.underlying t = some (.map k e)) (hz : ∀ w, (zeroValue e).run P w = .ok z w) (hi : L[i]? = some (entO K g x st z f b)) (hm : ev fr xm = some (.map (some g))) (hk : ev fr xk = some (K.kv x)) (hx : K.ok x) (hv : f x = v) : RR P n W ⟨dst, .lookup t xm xk false, ty, pos, after, guard⟩ fr L v :=
  rr_lookM K ht hz (fun _ hw => (hw.get hi).1) hm hk hx hv
end
end
end Go.Proofs.Ytbiacehgfmgfdaa.eng
